/- Lemmas of the claim: PWx62, PWx46, PWx60, Pn, Po, PWx1, PWx2, PWx39, PWx40, PWx103, PWx104, PWx4, PWx5, PWx52, Pb, Pw, PWx32, PWx33, PWx29, PWx30, PWx31, PWx34. -/
import Derived.Test.YtjggbalhpflbbaaGreatQERh
import Derived.Laws.BitsLemmas
import Derived.Test.YtjggbalhpflbbaaGreatQERa
import Derived.Test.YtjggbalhpflbbaaGreatQERg
section
namespace Go.Proofs.YtjggbalhpflbbaaGreat.PW
open Go.RowKit Go.Proofs.YtjggbalhpflbbaaGreatW.PrintWords Go.Proofs.YtjggbalhpflbbaaGreatW.PrintLast Go.Proofs.YtjggbalhpflbbaaGreatW.PrintMore
attribute [local go_sem] max2_int min2_int max_two min_two max_three min_three max_four min_four   -- for this text's walks alone
set_option linter.unusedVariables false
set_option linter.unusedSimpArgs false
def impl_magAdd.l0 : Nat → List Int → List Int → List Int → Int → List Int → Int → Int → Option (List Int)
 | 0, _, _, _, _, _, _, _ => none
 | k + 1, x0, x1, x5, x6, x20, x21, x22 => if x22 < x21 then (if 0 ≤ x22 then (if x22 < (x20.length : Int) then (if x22 < (x1.length : Int) then (if x22 < (x5.length : Int) then (impl_magAdd.l0 k x0 x1 (x5.set (x22 : Int).toNat ((IntKind.u64.wrap ((IntKind.u64.wrap (x6 + (IntKind.u64.wrap (rd x20 x22)))) + (IntKind.u64.wrap (rd x1 x22)))) % 4294967296)) ((IntKind.u64.wrap ((IntKind.u64.wrap (x6 + (IntKind.u64.wrap (rd x20 x22)))) + (IntKind.u64.wrap (rd x1 x22)))) / 4294967296) x20 x21 (wrap64 (x22 + 1))) else (none)) else (if x22 < (x5.length : Int) then (impl_magAdd.l0 k x0 x1 (x5.set (x22 : Int).toNat ((IntKind.u64.wrap (x6 + (IntKind.u64.wrap (rd x20 x22)))) % 4294967296)) ((IntKind.u64.wrap (x6 + (IntKind.u64.wrap (rd x20 x22)))) / 4294967296) x20 x21 (wrap64 (x22 + 1))) else (none))) else (none)) else (none)) else (if 0 ≤ (x0.length : Int) then (if (x0.length : Int) < (x5.length : Int) then ((impl_magTrim.f k (x5.set ((x0.length : Int) : Int).toNat ((x6) % 4294967296))).bind fun t433 => (some t433)) else (none)) else (none))
def impl_magAdd.f (k : Nat) (l0 : List Int) (l1 : List Int) : Option (List Int) := if 0 ≤ (wrap64 ((l0.length : Int) + 1)) then (if (wrap64 ((l0.length : Int) + 1) : Int).toNat ≤ 70368744177664 then (impl_magAdd.l0 k l0 l1 (List.replicate (wrap64 ((l0.length : Int) + 1) : Int).toNat 0) 0 l0 (l0.length : Int) 0) else (none)) else (none)
theorem impl_magAdd.mono_l : ∀ k, (∀ y0 y1 y2 y3 y4 y5 y6, LeO (impl_magAdd.l0 k y0 y1 y2 y3 y4 y5 y6) (impl_magAdd.l0 (k + 1) y0 y1 y2 y3 y4 y5 y6))
 | 0 => fun _ _ _ _ _ _ _ r h => by simp [impl_magAdd.l0] at h
 | k + 1 => by
  have ih0 := impl_magAdd.mono_l k
  ·intro y0 y1 y2 y3 y4 y5 y6
   unfold impl_magAdd.l0
   repeat' first
   | (with_reducible exact ih0 _ _ _ _ _ _ _)
   | (with_reducible exact impl_magTrim.mono _ _)
   | (with_reducible exact LeO.refl _)
   | (with_reducible exact LeO.none _)
   | (with_reducible refine LeO.ite ?_ ?_)
   | (with_reducible refine LeO.bind ?_ (fun _ => ?_))
   | exact ih0 _ _ _ _ _ _ _
   | exact impl_magTrim.mono _ _
   | exact LeO.none _
   | refine LeO.ite ?_ ?_
   | refine LeO.bind ?_ (fun _ => ?_)
theorem impl_magAdd.mono : ∀ a0 a1 k, LeO (impl_magAdd.f k a0 a1) (impl_magAdd.f (k + 1) a0 a1) := by
 intro a0 a1 k
 have ih0 := impl_magAdd.mono_l k
 unfold impl_magAdd.f
 repeat' first
   | (with_reducible exact ih0 _ _ _ _ _ _ _)
   | (with_reducible exact impl_magTrim.mono _ _)
   | (with_reducible exact LeO.refl _)
   | (with_reducible exact LeO.none _)
   | (with_reducible refine LeO.ite ?_ ?_)
   | (with_reducible refine LeO.bind ?_ (fun _ => ?_))
   | exact ih0 _ _ _ _ _ _ _
   | exact impl_magTrim.mono _ _
   | exact LeO.none _
   | refine LeO.ite ?_ ?_
   | refine LeO.bind ?_ (fun _ => ?_)
set_option maxHeartbeats 8000000 in
set_option maxRecDepth 100000 in
theorem impl_magAdd.calls_ge (k : Nat) (A0 : Option Addr) (c0 : Nat) (l0 : List Int) (A1 : Option Addr) (c1 : Nat) (l1 : List Int) (r : List Int) (w : World) (hr0 : Kd.C (Kd.int .u32) w A0 l0.length l0) (hc0 : l0.length ≤ c0) (hr1 : Kd.C (Kd.int .u32) w A1 l1.length l1) (hc1 : l1.length ≤ c1) (hle : decide (l0.length < l1.length) = false) (h : impl_magAdd.f k l0 l1 = some r) :
  Calls Tryz.prog 102 #[.slice A0 l0.length c0, .slice A1 l1.length c1] w fun e w' => ∃ v0_ : Value, e = .returned (v0_) ∧ Kd.V (Kd.int .u32) 103 w' w.heap.size (fun k_ => (w.heap.size ≤ k_)) v0_ r ∧ Below w.heap.size w w' := by
 have HR0 := Azq.mk hr0
 have HC0 := Azq.mk hc0
 clear hr0 hc0
 have HR1 := Azq.mk hr1
 have HC1 := Azq.mk hc1
 clear hr1 hc1
 have HB := Azq.mk (Below.refl w.heap.size w)
 have H : (if 0 ≤ (wrap64 ((l0.length : Int) + 1)) then (if (wrap64 ((l0.length : Int) + 1) : Int).toNat ≤ 70368744177664 then (impl_magAdd.l0 k l0 l1 (List.replicate (wrap64 ((l0.length : Int) + 1) : Int).toNat 0) 0 l0 (l0.length : Int) 0) else (none)) else (none)) = some r := h
 clear h
 obtain ⟨ji3, hji3⟩ : ∃ j_ : Int, (wrap64 ((l0.length : Int) + 1)) = j_ := ⟨_, rfl⟩
 replace H : (if 0 ≤ (ji3) then (if (ji3 : Int).toNat ≤ 70368744177664 then (impl_magAdd.l0 k l0 l1 (List.replicate (ji3 : Int).toNat 0) 0 l0 (l0.length : Int) 0) else (none)) else (none)) = some r := by first | (rw [hji3] at H; exact H) | (simp only [hji3] at H ⊢; exact H)
 have hji3w : (IntKind.i64.wrap ((l0.length : Int) + 1)) = ji3 := (i64_w _).trans hji3
 by_cases c4 : 0 ≤ (ji3)
 ·rw [if_pos c4] at H
  have c4b0 := eq_true c4
  have c4b1 : decide (0 ≤ (ji3)) = true := decide_eq_true c4
  clear c4
  by_cases c5 : (ji3 : Int).toNat ≤ 70368744177664
  ·rw [if_pos c5] at H
   have c5b0 := eq_true c5
   have c5b1 : decide ((ji3 : Int).toNat ≤ 70368744177664) = true := decide_eq_true c5
   clear c5
   obtain ⟨y425, hy425⟩ : ∃ y_ : List Int, y_ = (List.replicate (ji3 : Int).toNat 0) := ⟨_, rfl⟩
   replace H : (impl_magAdd.l0 k l0 l1 y425 0 l0 (l0.length : Int) 0) = some r := by first | (rw [hy425]; with_reducible exact H) | (have H2_ := (Option.bind_some _ _).symm.trans H; rw [hy425]; with_reducible exact H2_) | (have H2_ := (Option.bind_some _ _).symm.trans H; with_reducible exact H2_) | with_reducible exact H | (rw [hy425]; exact H) | exact H
   have Ny425 := Azq.mk hy425
   clear hy425
   have H' := Azq.mk H
   clear H
   go_enter Tryz.func102, Tryz.ntmps102
   go_wp2_with (first | ((with_reducible refine gate_dst (N := 19) rfl ?_); refine Kd.R_make (Kd.int .u32) _ 103 rfl (N := 19) rfl 92 _ _ rfl ji3 rfl rfl Tryz.underlying92 (.int .u32 0) 4 info103 rfl (by decide) (by omega) 0 (ok := fun _ => True) (okp := fun _ => True) rfl (fun _ hk => hk) trivial (of_decide_eq_true (by first | (with_reducible assumption) | assumption)) (Nat.le_trans (Nat.mul_le_mul_right _ (of_decide_eq_true (by first | (with_reducible assumption) | assumption) : ji3.toNat ≤ 70368744177664)) (by omega)) (Below.refl _ _) (Nat.le_refl _) ?_; intro v426 w6 ho7 hb hg_ hnew_; clear hg_ hnew_; (first | rw [← Ny425.out] at ho7 | (simp only [Int.reduceToNat] at ho7; rw [← Ny425.out] at ho7)); have n0_ := Azq.mk (Kd.R_lower (Kd.R_newM (M := fun k_ => (w.heap.size ≤ k_)) ho7 (wzq (by repeat (first | (with_reducible first | exact HB.out | apply waq | apply wdq | apply wrq) | exact HB.out))) (fun k_ h_ => h_)) (wzq (by repeat (first | (with_reducible first | exact HB.out | apply waq | apply wdq | apply wrq) | exact HB.out)))); have n1_ := Azq.mk (wtq (by repeat (first | (with_reducible first | exact HB.out | apply waq | apply wdq | apply wrq) | exact HB.out)) hb); clear HB; have HO427 := n0_; have HB := n1_; clear n0_ n1_; clear hb ho7))
   go_loopg [6, 22] k (fun kq v6 v22 w' => ∃ (x5_1 : List Int) (x6_1 : Int) (x22_1 : Int), v6 = .int .u64 x6_1 ∧ v22 = .int .i64 x22_1 ∧ Azq (impl_magAdd.l0 kq l0 l1 x5_1 x6_1 l0 (l0.length : Int) x22_1 = some r) ∧ Azq (kq ≤ k) ∧ Azq (Kd.R (Kd.int .u32) 103 w' w.heap.size (fun k_ => (w.heap.size ≤ k_)) v426 x5_1) ∧ Azq (Below w.heap.size w w'))
   case atStart => exact ⟨(y425), (0), (0), (by first | rfl | (simp; done) | (simp [*]; done)), (by first | rfl | (simp; done) | (simp [*]; done)), H', ⟨Nat.le_refl _⟩, ⟨by (with_reducible repeat (first | apply Kd.R_alloc | apply Kd.R_drewN | apply Kd.R_drew)); exact Kd.R_mono HO427.out (fun _ hk => hk.1)⟩, ⟨by repeat (first | (with_reducible first | exact HB.out | apply waq | apply wdq | apply wrq) | exact HB.out)⟩⟩
   case round =>
    clear H'
    try clear c1
    try clear p2
    try clear c4
    try clear c4b0
    try clear c4b1
    try clear c5
    try clear c5b0
    try clear c5b1
    try clear p6
    obtain ⟨x5_1, x6_1, x22_1, rfl, rfl, HA, HK1, HO_5, HB⟩ := hrel
    cases gk with
    | zero => exact absurd HA.out (by simp [impl_magAdd.l0])
    | succ k1 =>
     have H := HA.out
     clear HA
     simp only [impl_magAdd.l0] at H
     by_cases c8 : x22_1 < (l0.length : Int)
     ·rw [if_pos c8] at H
      have c8b0 : decide (x22_1 < (l0.length : Int)) = true := decide_eq_true c8
      clear c8
      by_cases c9 : 0 ≤ x22_1
      ·rw [if_pos c9] at H
       have c9b0 : decide (0 ≤ x22_1) = true := decide_eq_true c9
       clear c9
       by_cases c10 : x22_1 < (l0.length : Int)
       ·rw [if_pos c10] at H
        have c10b0 : decide (x22_1 < (l0.length : Int)) = true := decide_eq_true c10
        clear c10
        by_cases c11 : x22_1 < (l1.length : Int)
        ·rw [if_pos c11] at H
         have c11b0 : decide (x22_1 < (l1.length : Int)) = true := decide_eq_true c11
         clear c11
         by_cases c12 : x22_1 < (x5_1.length : Int)
         ·rw [if_pos c12] at H
          have c12b0 : decide (x22_1 < (x5_1.length : Int)) = true := decide_eq_true c12
          clear c12
          obtain ⟨y430, hy430⟩ : ∃ y_ : List Int, y_ = (x5_1.set (x22_1 : Int).toNat ((IntKind.u64.wrap ((IntKind.u64.wrap (x6_1 + (IntKind.u64.wrap (rd l0 x22_1)))) + (IntKind.u64.wrap (rd l1 x22_1)))) % 4294967296)) := ⟨_, rfl⟩
          replace H : (impl_magAdd.l0 k1 l0 l1 y430 ((IntKind.u64.wrap ((IntKind.u64.wrap (x6_1 + (IntKind.u64.wrap (rd l0 x22_1)))) + (IntKind.u64.wrap (rd l1 x22_1)))) / 4294967296) l0 (l0.length : Int) (wrap64 (x22_1 + 1))) = some r := by first | (rw [hy430]; with_reducible exact H) | (have H2_ := (Option.bind_some _ _).symm.trans H; rw [hy430]; with_reducible exact H2_) | (have H2_ := (Option.bind_some _ _).symm.trans H; with_reducible exact H2_) | with_reducible exact H | (rw [hy430]; exact H) | exact H
          have Ny430 := Azq.mk hy430
          clear hy430
          have H' := Azq.mk H
          clear H
          have p428 : 0 ≤ (x22_1 : Int) := of_decide_eq_true (by first | (with_reducible assumption) | assumption)
          have q428 : x22_1 < (l0.length : Int) := of_decide_eq_true (by first | (with_reducible assumption) | assumption)
          obtain ⟨ad428, e428, hx428_0⟩ := Kd.at_int HR0.out x22_1 p428 q428
          cases e428
          replace hx428_0 := (HB.out.cell (World.block_lt_of_cell? w _ hx428_0)).trans hx428_0
          replace p428 := eq_true p428
          replace q428 := eq_true q428
          have p429 : 0 ≤ (x22_1 : Int) := of_decide_eq_true (by first | (with_reducible assumption) | assumption)
          have q429 : x22_1 < (l1.length : Int) := of_decide_eq_true (by first | (with_reducible assumption) | assumption)
          obtain ⟨ad429, e429, hx429_0⟩ := Kd.at_int HR1.out x22_1 p429 q429
          cases e429
          replace hx429_0 := (HB.out.cell (World.block_lt_of_cell? w _ hx429_0)).trans hx429_0
          replace p429 := eq_true p429
          replace q429 := eq_true q429
          have p13 : 0 ≤ (x22_1 : Int) := of_decide_eq_true (by first | (with_reducible assumption) | assumption)
          have q13 : (x22_1 : Int) < ((x5_1.length : Int) : Int) := of_decide_eq_true (by first | (with_reducible assumption) | assumption)
          obtain ⟨go13, co13, eo13, gb13, gl13, cl13, HG13⟩ := Kd.R_form HO_5.out (by omega)
          (first | cases eo13 | (injection eo13 with ea_ en_ ec_; (first | subst ea_ | (injection ea_ with ea_; subst ea_)); subst ec_; clear en_))
          have GB13 := Azq.mk gb13
          have GG13 := Azq.mk HG13
          clear gb13 gl13 HG13
          obtain ⟨hx13_0, hf13_0⟩ := Kd.R_celln 0 HO_5.out (x22_1 : Int) p13 q13
          replace p13 := eq_true p13
          replace q13 := eq_true q13
          have HP14 := Kd.R_putg HO_5.out (x22_1 : Int) ((IntKind.u64.wrap ((IntKind.u64.wrap (x6_1 + (IntKind.u64.wrap (rd l0 x22_1)))) + (IntKind.u64.wrap (rd l1 x22_1)))) % 4294967296)
          go_wp2_with (first | ((with_reducible refine gate_store (t := 103) (p := 46) rfl ?_); refine store_event (t := 103) (p := 46) (v := ?vo_w15) (w1 := (wr.setCell ⟨go13, (x22_1 : Int).toNat, none⟩ (.int .u32 ((IntKind.u64.wrap ((IntKind.u64.wrap (x6_1 + (IntKind.u64.wrap (rd l0 x22_1)))) + (IntKind.u64.wrap (rd l1 x22_1)))) % 4294967296)))) ?hg ?ho ?hn ?hr ?_; (case ho => rfl); (case hg => rfl); (case hn => rfl); (case hr => first | (go_simp; done) | (go_simp; rfl)); intro w15 hw; have hg : wr.grownBy w15 (some go13) := (by rw [hw]; exact HP14.2); have hp_ : Kd.R (Kd.int .u32) 103 w15 w.heap.size (fun k_ => (w.heap.size ≤ k_)) (.slice (some ⟨go13, 0, none⟩) x5_1.length co13) y430 := (by rw [hw, Ny430.out]; exact HP14.1); clear HP14; have n0_ := Azq.mk (hp_); have n1_ := Azq.mk ((by rw [hw]; exact wsq (HB.out) GB13.out : Below w.heap.size w w15)); clear HO_5; clear HB; have HO_5 := n0_; have HB := n1_; clear n0_ n1_; clear hg hw hp_))
          go_roundg k1
          case measure => have := HK1.out; omega
          case rel => exact ⟨(y430), ((IntKind.u64.wrap ((IntKind.u64.wrap (x6_1 + (IntKind.u64.wrap (rd l0 x22_1)))) + (IntKind.u64.wrap (rd l1 x22_1)))) / 4294967296), (wrap64 (x22_1 + 1)), (by first | rfl | (simp; done) | (simp [*]; done)), (by first | rfl | (simp; done) | (simp [*]; done)), H', ⟨by have := HK1.out; omega⟩, ⟨by (with_reducible repeat (first | apply Kd.R_alloc | apply Kd.R_drewN | apply Kd.R_drew)); exact HO_5.out⟩, ⟨by repeat (first | (with_reducible first | exact HB.out | apply waq | apply wdq | apply wrq) | exact HB.out)⟩⟩
         ·rw [if_neg c12] at H
          exact absurd H (by simp)
        ·rw [if_neg c11] at H
         have c11b0 : decide (x22_1 < (l1.length : Int)) = false := decide_eq_false c11
         clear c11
         by_cases c16 : x22_1 < (x5_1.length : Int)
         ·rw [if_pos c16] at H
          have c16b0 : decide (x22_1 < (x5_1.length : Int)) = true := decide_eq_true c16
          clear c16
          obtain ⟨y431, hy431⟩ : ∃ y_ : List Int, y_ = (x5_1.set (x22_1 : Int).toNat ((IntKind.u64.wrap (x6_1 + (IntKind.u64.wrap (rd l0 x22_1)))) % 4294967296)) := ⟨_, rfl⟩
          replace H : (impl_magAdd.l0 k1 l0 l1 y431 ((IntKind.u64.wrap (x6_1 + (IntKind.u64.wrap (rd l0 x22_1)))) / 4294967296) l0 (l0.length : Int) (wrap64 (x22_1 + 1))) = some r := by first | (rw [hy431]; with_reducible exact H) | (have H2_ := (Option.bind_some _ _).symm.trans H; rw [hy431]; with_reducible exact H2_) | (have H2_ := (Option.bind_some _ _).symm.trans H; with_reducible exact H2_) | with_reducible exact H | (rw [hy431]; exact H) | exact H
          have Ny431 := Azq.mk hy431
          clear hy431
          have H' := Azq.mk H
          clear H
          have p428 : 0 ≤ (x22_1 : Int) := of_decide_eq_true (by first | (with_reducible assumption) | assumption)
          have q428 : x22_1 < (l0.length : Int) := of_decide_eq_true (by first | (with_reducible assumption) | assumption)
          obtain ⟨ad428, e428, hx428_0⟩ := Kd.at_int HR0.out x22_1 p428 q428
          cases e428
          replace hx428_0 := (HB.out.cell (World.block_lt_of_cell? w _ hx428_0)).trans hx428_0
          replace p428 := eq_true p428
          replace q428 := eq_true q428
          have p17 : 0 ≤ (x22_1 : Int) := of_decide_eq_true (by first | (with_reducible assumption) | assumption)
          have q17 : (x22_1 : Int) < ((x5_1.length : Int) : Int) := of_decide_eq_true (by first | (with_reducible assumption) | assumption)
          obtain ⟨go17, co17, eo17, gb17, gl17, cl17, HG17⟩ := Kd.R_form HO_5.out (by omega)
          (first | cases eo17 | (injection eo17 with ea_ en_ ec_; (first | subst ea_ | (injection ea_ with ea_; subst ea_)); subst ec_; clear en_))
          have GB17 := Azq.mk gb17
          have GG17 := Azq.mk HG17
          clear gb17 gl17 HG17
          obtain ⟨hx17_0, hf17_0⟩ := Kd.R_celln 0 HO_5.out (x22_1 : Int) p17 q17
          replace p17 := eq_true p17
          replace q17 := eq_true q17
          have HP18 := Kd.R_putg HO_5.out (x22_1 : Int) ((IntKind.u64.wrap (x6_1 + (IntKind.u64.wrap (rd l0 x22_1)))) % 4294967296)
          go_wp2_with (first | ((with_reducible refine gate_store (t := 103) (p := 46) rfl ?_); refine store_event (t := 103) (p := 46) (v := ?vo_w19) (w1 := (wr.setCell ⟨go17, (x22_1 : Int).toNat, none⟩ (.int .u32 ((IntKind.u64.wrap (x6_1 + (IntKind.u64.wrap (rd l0 x22_1)))) % 4294967296)))) ?hg ?ho ?hn ?hr ?_; (case ho => rfl); (case hg => rfl); (case hn => rfl); (case hr => first | (go_simp; done) | (go_simp; rfl)); intro w19 hw; have hg : wr.grownBy w19 (some go17) := (by rw [hw]; exact HP18.2); have hp_ : Kd.R (Kd.int .u32) 103 w19 w.heap.size (fun k_ => (w.heap.size ≤ k_)) (.slice (some ⟨go17, 0, none⟩) x5_1.length co17) y431 := (by rw [hw, Ny431.out]; exact HP18.1); clear HP18; have n0_ := Azq.mk (hp_); have n1_ := Azq.mk ((by rw [hw]; exact wsq (HB.out) GB17.out : Below w.heap.size w w19)); clear HO_5; clear HB; have HO_5 := n0_; have HB := n1_; clear n0_ n1_; clear hg hw hp_))
          go_roundg k1
          case measure => have := HK1.out; omega
          case rel => exact ⟨(y431), ((IntKind.u64.wrap (x6_1 + (IntKind.u64.wrap (rd l0 x22_1)))) / 4294967296), (wrap64 (x22_1 + 1)), (by first | rfl | (simp; done) | (simp [*]; done)), (by first | rfl | (simp; done) | (simp [*]; done)), H', ⟨by have := HK1.out; omega⟩, ⟨by (with_reducible repeat (first | apply Kd.R_alloc | apply Kd.R_drewN | apply Kd.R_drew)); exact HO_5.out⟩, ⟨by repeat (first | (with_reducible first | exact HB.out | apply waq | apply wdq | apply wrq) | exact HB.out)⟩⟩
         ·rw [if_neg c16] at H
          exact absurd H (by simp)
       ·rw [if_neg c10] at H
        exact absurd H (by simp)
      ·rw [if_neg c9] at H
       exact absurd H (by simp)
     ·rw [if_neg c8] at H
      have c8b0 : decide (x22_1 < (l0.length : Int)) = false := decide_eq_false c8
      clear c8
      by_cases c20 : 0 ≤ (l0.length : Int)
      ·rw [if_pos c20] at H
       have c20b0 : decide (0 ≤ (l0.length : Int)) = true := decide_eq_true c20
       have c20b1 : decide (0 ≤ l0.length) = true := decide_eq_true (by omega)
       clear c20
       by_cases c21 : (l0.length : Int) < (x5_1.length : Int)
       ·rw [if_pos c21] at H
        have c21b0 : decide ((l0.length : Int) < (x5_1.length : Int)) = true := decide_eq_true c21
        have c21b1 : decide (l0.length < x5_1.length) = true := decide_eq_true (Int.ofNat_lt.mp c21)
        clear c21
        obtain ⟨y432, hy432⟩ : ∃ y_ : List Int, y_ = (x5_1.set ((l0.length : Int) : Int).toNat ((x6_1) % 4294967296)) := ⟨_, rfl⟩
        replace H : ((impl_magTrim.f k1 y432).bind fun t433 => (some t433)) = some r := by first | (rw [hy432]; with_reducible exact H) | (have H2_ := (Option.bind_some _ _).symm.trans H; rw [hy432]; with_reducible exact H2_) | (have H2_ := (Option.bind_some _ _).symm.trans H; with_reducible exact H2_) | with_reducible exact H | (rw [hy432]; exact H) | exact H
        have Ny432 := Azq.mk hy432
        clear hy432
        replace H := Option.bind_eq_some_iff.mp H
        obtain ⟨t433, A230, H⟩ := H
        replace H : (some t433) = some r := H
        have A23 := Azq.mk A230
        clear A230
        obtain rfl := Option.some.inj H
        have p22 : 0 ≤ ((l0.length : Int) : Int) := of_decide_eq_true (by first | (with_reducible assumption) | assumption)
        have q22 : ((l0.length : Int) : Int) < ((x5_1.length : Int) : Int) := of_decide_eq_true (by first | (with_reducible assumption) | assumption)
        obtain ⟨go22, co22, eo22, gb22, gl22, cl22, HG22⟩ := Kd.R_form HO_5.out (by omega)
        (first | cases eo22 | (injection eo22 with ea_ en_ ec_; (first | subst ea_ | (injection ea_ with ea_; subst ea_)); subst ec_; clear en_))
        have GB22 := Azq.mk gb22
        have GG22 := Azq.mk HG22
        clear gb22 gl22 HG22
        obtain ⟨hx22_0, hf22_0⟩ := Kd.R_celln 0 HO_5.out ((l0.length : Int) : Int) p22 q22
        simp only [Int.toNat_natCast] at hx22_0 hf22_0
        replace p22 := eq_true p22
        replace q22 := eq_true q22
        have HP24 := Kd.R_putg HO_5.out ((l0.length : Int) : Int) ((x6_1) % 4294967296)
        go_wp2_with (first | ((with_reducible refine gate_store (t := 103) (p := 55) rfl ?_); refine store_event (t := 103) (p := 55) (v := ?vo_w25) (w1 := (wr.setCell ⟨go22, ((l0.length : Int) : Int).toNat, none⟩ (.int .u32 ((x6_1) % 4294967296)))) ?hg ?ho ?hn ?hr ?_; (case ho => rfl); (case hg => rfl); (case hn => rfl); (case hr => first | (go_simp; done) | (go_simp; rfl)); intro w25 hw; have hg : wr.grownBy w25 (some go22) := (by rw [hw]; exact HP24.2); have hp_ : Kd.R (Kd.int .u32) 103 w25 w.heap.size (fun k_ => (w.heap.size ≤ k_)) (.slice (some ⟨go22, 0, none⟩) x5_1.length co22) y432 := (by rw [hw, Ny432.out]; exact HP24.1); clear HP24; have n0_ := Azq.mk (hp_); have n1_ := Azq.mk ((by rw [hw]; exact wsq (HB.out) GB22.out : Below w.heap.size w w25)); clear HO_5; clear HB; have HO_5 := n0_; have HB := n1_; clear n0_ n1_; clear hg hw hp_) | ((with_reducible refine gate_callee (f := 109) rfl ?_); refine goesL_ (some 57) rfl rfl Tryz.func109 (by kernel_rfl) rfl #[.slice (some ⟨go22, 0, none⟩) y432.length co22] rfl (by (try simp only [List.map_toArray, List.map_cons, List.map_nil]); first | done | (rw [show y432.length = x5_1.length from (Kd.R_reads' HO_5.out).1.symm] <;> rfl) | rfl | (simp only [List.length_drop, List.length_take]; rfl)) ?_; (with_reducible refine (impl_magTrim.calls k1 (fun k_ => some k_ = (.slice (some ⟨go22, 0, none⟩) x5_1.length co22 : Value).ownBlock) _ _ y432 t433 _ ?side1 A23.out).mono ?_); (case side1 => rw [show y432.length = x5_1.length from (Kd.R_reads' HO_5.out).1.symm]; exact Kd.R_V (Kd.R_tight rfl (HO_5.out))); rintro e w26 ⟨v434, rfl, ho0, hb⟩; refine ⟨_, rfl, ?_⟩; have n0_ := Azq.mk (Kd.R_below (by (with_reducible repeat (first | apply Kd.R_alloc | apply Kd.R_drewN | apply Kd.R_drew)); exact HO_5.out) hb); have n1_ := Azq.mk (Kd.V_lower (Kd.V_mono (ok' := fun k_ => (w.heap.size ≤ k_)) ho0 (fun k_ hk_ => Or.elim hk_ (fun hs_ => ((HO_5.out).1 k_ hs_.symm)) (fun hn_ => (Nat.le_trans (wzq (by repeat (first | (with_reducible first | exact HB.out | apply waq | apply wdq | apply wrq) | exact HB.out))) hn_)))) (wzq (by repeat (first | (with_reducible first | exact HB.out | apply waq | apply wdq | apply wrq) | exact HB.out)))); have n2_ := Azq.mk (wtq (by repeat (first | (with_reducible first | exact HB.out | apply waq | apply wdq | apply wrq) | exact HB.out)) hb); clear HO_5; clear HB; have HO_5 := n0_; have HO435 := n1_; have HB := n2_; clear n0_ n1_ n2_; (try clear hb); (try clear hb2); (try clear hk); (try clear hi); (try clear ho0)))
        go_ret
        exact ⟨_, by first | rfl | (simp [errW_none, errW_some] <;> rfl) | (simp only [← hji3]; first | rfl | (simp [errW_none, errW_some] <;> rfl)) | (simp [*, errW_none, errW_some] <;> rfl), by (with_reducible repeat (first | apply Kd.V_alloc | apply Kd.V_drewN | apply Kd.V_drew)); exact HO435.out, by repeat (first | (with_reducible first | exact HB.out | apply waq | apply wdq | apply wrq) | exact HB.out)⟩
       ·rw [if_neg c21] at H
        exact absurd H (by simp)
      ·rw [if_neg c20] at H
       exact absurd H (by simp)
  ·rw [if_neg c5] at H
   exact absurd H (by simp)
 ·rw [if_neg c4] at H
  exact absurd H (by simp)
set_option maxHeartbeats 8000000 in
set_option maxRecDepth 100000 in
theorem impl_magAdd.calls_lt (k : Nat) (A0 : Option Addr) (c0 : Nat) (l0 : List Int) (A1 : Option Addr) (c1 : Nat) (l1 : List Int) (r : List Int) (w : World) (hr0 : Kd.C (Kd.int .u32) w A0 l0.length l0) (hc0 : l0.length ≤ c0) (hr1 : Kd.C (Kd.int .u32) w A1 l1.length l1) (hc1 : l1.length ≤ c1) (hle : decide (l1.length < l0.length) = true) (h : impl_magAdd.f k l0 l1 = some r) :
  Calls Tryz.prog 102 #[.slice A1 l1.length c1, .slice A0 l0.length c0] w fun e w' => ∃ v0_ : Value, e = .returned (v0_) ∧ Kd.V (Kd.int .u32) 103 w' w.heap.size (fun k_ => (w.heap.size ≤ k_)) v0_ r ∧ Below w.heap.size w w' := by
 have HR0 := Azq.mk hr0
 have HC0 := Azq.mk hc0
 clear hr0 hc0
 have HR1 := Azq.mk hr1
 have HC1 := Azq.mk hc1
 clear hr1 hc1
 have HB := Azq.mk (Below.refl w.heap.size w)
 have H : (if 0 ≤ (wrap64 ((l0.length : Int) + 1)) then (if (wrap64 ((l0.length : Int) + 1) : Int).toNat ≤ 70368744177664 then (impl_magAdd.l0 k l0 l1 (List.replicate (wrap64 ((l0.length : Int) + 1) : Int).toNat 0) 0 l0 (l0.length : Int) 0) else (none)) else (none)) = some r := h
 clear h
 obtain ⟨ji3, hji3⟩ : ∃ j_ : Int, (wrap64 ((l0.length : Int) + 1)) = j_ := ⟨_, rfl⟩
 replace H : (if 0 ≤ (ji3) then (if (ji3 : Int).toNat ≤ 70368744177664 then (impl_magAdd.l0 k l0 l1 (List.replicate (ji3 : Int).toNat 0) 0 l0 (l0.length : Int) 0) else (none)) else (none)) = some r := by first | (rw [hji3] at H; exact H) | (simp only [hji3] at H ⊢; exact H)
 have hji3w : (IntKind.i64.wrap ((l0.length : Int) + 1)) = ji3 := (i64_w _).trans hji3
 by_cases c4 : 0 ≤ (ji3)
 ·rw [if_pos c4] at H
  have c4b0 := eq_true c4
  have c4b1 : decide (0 ≤ (ji3)) = true := decide_eq_true c4
  clear c4
  by_cases c5 : (ji3 : Int).toNat ≤ 70368744177664
  ·rw [if_pos c5] at H
   have c5b0 := eq_true c5
   have c5b1 : decide ((ji3 : Int).toNat ≤ 70368744177664) = true := decide_eq_true c5
   clear c5
   obtain ⟨y425, hy425⟩ : ∃ y_ : List Int, y_ = (List.replicate (ji3 : Int).toNat 0) := ⟨_, rfl⟩
   replace H : (impl_magAdd.l0 k l0 l1 y425 0 l0 (l0.length : Int) 0) = some r := by first | (rw [hy425]; with_reducible exact H) | (have H2_ := (Option.bind_some _ _).symm.trans H; rw [hy425]; with_reducible exact H2_) | (have H2_ := (Option.bind_some _ _).symm.trans H; with_reducible exact H2_) | with_reducible exact H | (rw [hy425]; exact H) | exact H
   have Ny425 := Azq.mk hy425
   clear hy425
   have H' := Azq.mk H
   clear H
   go_enter Tryz.func102, Tryz.ntmps102
   go_wp2_with (first | ((with_reducible refine gate_dst (N := 19) rfl ?_); refine Kd.R_make (Kd.int .u32) _ 103 rfl (N := 19) rfl 92 _ _ rfl ji3 rfl rfl Tryz.underlying92 (.int .u32 0) 4 info103 rfl (by decide) (by omega) 0 (ok := fun _ => True) (okp := fun _ => True) rfl (fun _ hk => hk) trivial (of_decide_eq_true (by first | (with_reducible assumption) | assumption)) (Nat.le_trans (Nat.mul_le_mul_right _ (of_decide_eq_true (by first | (with_reducible assumption) | assumption) : ji3.toNat ≤ 70368744177664)) (by omega)) (Below.refl _ _) (Nat.le_refl _) ?_; intro v426 w6 ho7 hb hg_ hnew_; clear hg_ hnew_; (first | rw [← Ny425.out] at ho7 | (simp only [Int.reduceToNat] at ho7; rw [← Ny425.out] at ho7)); have n0_ := Azq.mk (Kd.R_lower (Kd.R_newM (M := fun k_ => (w.heap.size ≤ k_)) ho7 (wzq (by repeat (first | (with_reducible first | exact HB.out | apply waq | apply wdq | apply wrq) | exact HB.out))) (fun k_ h_ => h_)) (wzq (by repeat (first | (with_reducible first | exact HB.out | apply waq | apply wdq | apply wrq) | exact HB.out)))); have n1_ := Azq.mk (wtq (by repeat (first | (with_reducible first | exact HB.out | apply waq | apply wdq | apply wrq) | exact HB.out)) hb); clear HB; have HO427 := n0_; have HB := n1_; clear n0_ n1_; clear hb ho7))
   go_loopg [6, 22] k (fun kq v6 v22 w' => ∃ (x5_1 : List Int) (x6_1 : Int) (x22_1 : Int), v6 = .int .u64 x6_1 ∧ v22 = .int .i64 x22_1 ∧ Azq (impl_magAdd.l0 kq l0 l1 x5_1 x6_1 l0 (l0.length : Int) x22_1 = some r) ∧ Azq (kq ≤ k) ∧ Azq (Kd.R (Kd.int .u32) 103 w' w.heap.size (fun k_ => (w.heap.size ≤ k_)) v426 x5_1) ∧ Azq (Below w.heap.size w w'))
   case atStart => exact ⟨(y425), (0), (0), (by first | rfl | (simp; done) | (simp [*]; done)), (by first | rfl | (simp; done) | (simp [*]; done)), H', ⟨Nat.le_refl _⟩, ⟨by (with_reducible repeat (first | apply Kd.R_alloc | apply Kd.R_drewN | apply Kd.R_drew)); exact Kd.R_mono HO427.out (fun _ hk => hk.1)⟩, ⟨by repeat (first | (with_reducible first | exact HB.out | apply waq | apply wdq | apply wrq) | exact HB.out)⟩⟩
   case round =>
    clear H'
    try clear c1
    try clear p2
    try clear c4
    try clear c4b0
    try clear c4b1
    try clear c5
    try clear c5b0
    try clear c5b1
    try clear p6
    obtain ⟨x5_1, x6_1, x22_1, rfl, rfl, HA, HK1, HO_5, HB⟩ := hrel
    cases gk with
    | zero => exact absurd HA.out (by simp [impl_magAdd.l0])
    | succ k1 =>
     have H := HA.out
     clear HA
     simp only [impl_magAdd.l0] at H
     by_cases c8 : x22_1 < (l0.length : Int)
     ·rw [if_pos c8] at H
      have c8b0 : decide (x22_1 < (l0.length : Int)) = true := decide_eq_true c8
      clear c8
      by_cases c9 : 0 ≤ x22_1
      ·rw [if_pos c9] at H
       have c9b0 : decide (0 ≤ x22_1) = true := decide_eq_true c9
       clear c9
       by_cases c10 : x22_1 < (l0.length : Int)
       ·rw [if_pos c10] at H
        have c10b0 : decide (x22_1 < (l0.length : Int)) = true := decide_eq_true c10
        clear c10
        by_cases c11 : x22_1 < (l1.length : Int)
        ·rw [if_pos c11] at H
         have c11b0 : decide (x22_1 < (l1.length : Int)) = true := decide_eq_true c11
         clear c11
         by_cases c12 : x22_1 < (x5_1.length : Int)
         ·rw [if_pos c12] at H
          have c12b0 : decide (x22_1 < (x5_1.length : Int)) = true := decide_eq_true c12
          clear c12
          obtain ⟨y430, hy430⟩ : ∃ y_ : List Int, y_ = (x5_1.set (x22_1 : Int).toNat ((IntKind.u64.wrap ((IntKind.u64.wrap (x6_1 + (IntKind.u64.wrap (rd l0 x22_1)))) + (IntKind.u64.wrap (rd l1 x22_1)))) % 4294967296)) := ⟨_, rfl⟩
          replace H : (impl_magAdd.l0 k1 l0 l1 y430 ((IntKind.u64.wrap ((IntKind.u64.wrap (x6_1 + (IntKind.u64.wrap (rd l0 x22_1)))) + (IntKind.u64.wrap (rd l1 x22_1)))) / 4294967296) l0 (l0.length : Int) (wrap64 (x22_1 + 1))) = some r := by first | (rw [hy430]; with_reducible exact H) | (have H2_ := (Option.bind_some _ _).symm.trans H; rw [hy430]; with_reducible exact H2_) | (have H2_ := (Option.bind_some _ _).symm.trans H; with_reducible exact H2_) | with_reducible exact H | (rw [hy430]; exact H) | exact H
          have Ny430 := Azq.mk hy430
          clear hy430
          have H' := Azq.mk H
          clear H
          have p428 : 0 ≤ (x22_1 : Int) := of_decide_eq_true (by first | (with_reducible assumption) | assumption)
          have q428 : x22_1 < (l0.length : Int) := of_decide_eq_true (by first | (with_reducible assumption) | assumption)
          obtain ⟨ad428, e428, hx428_0⟩ := Kd.at_int HR0.out x22_1 p428 q428
          cases e428
          replace hx428_0 := (HB.out.cell (World.block_lt_of_cell? w _ hx428_0)).trans hx428_0
          replace p428 := eq_true p428
          replace q428 := eq_true q428
          have p429 : 0 ≤ (x22_1 : Int) := of_decide_eq_true (by first | (with_reducible assumption) | assumption)
          have q429 : x22_1 < (l1.length : Int) := of_decide_eq_true (by first | (with_reducible assumption) | assumption)
          obtain ⟨ad429, e429, hx429_0⟩ := Kd.at_int HR1.out x22_1 p429 q429
          cases e429
          replace hx429_0 := (HB.out.cell (World.block_lt_of_cell? w _ hx429_0)).trans hx429_0
          replace p429 := eq_true p429
          replace q429 := eq_true q429
          have p13 : 0 ≤ (x22_1 : Int) := of_decide_eq_true (by first | (with_reducible assumption) | assumption)
          have q13 : (x22_1 : Int) < ((x5_1.length : Int) : Int) := of_decide_eq_true (by first | (with_reducible assumption) | assumption)
          obtain ⟨go13, co13, eo13, gb13, gl13, cl13, HG13⟩ := Kd.R_form HO_5.out (by omega)
          (first | cases eo13 | (injection eo13 with ea_ en_ ec_; (first | subst ea_ | (injection ea_ with ea_; subst ea_)); subst ec_; clear en_))
          have GB13 := Azq.mk gb13
          have GG13 := Azq.mk HG13
          clear gb13 gl13 HG13
          obtain ⟨hx13_0, hf13_0⟩ := Kd.R_celln 0 HO_5.out (x22_1 : Int) p13 q13
          replace p13 := eq_true p13
          replace q13 := eq_true q13
          have HP14 := Kd.R_putg HO_5.out (x22_1 : Int) ((IntKind.u64.wrap ((IntKind.u64.wrap (x6_1 + (IntKind.u64.wrap (rd l0 x22_1)))) + (IntKind.u64.wrap (rd l1 x22_1)))) % 4294967296)
          go_wp2_with (first | ((with_reducible refine gate_store (t := 103) (p := 46) rfl ?_); refine store_event (t := 103) (p := 46) (v := ?vo_w15) (w1 := (wr.setCell ⟨go13, (x22_1 : Int).toNat, none⟩ (.int .u32 ((IntKind.u64.wrap ((IntKind.u64.wrap (x6_1 + (IntKind.u64.wrap (rd l0 x22_1)))) + (IntKind.u64.wrap (rd l1 x22_1)))) % 4294967296)))) ?hg ?ho ?hn ?hr ?_; (case ho => rfl); (case hg => rfl); (case hn => rfl); (case hr => first | (go_simp; done) | (go_simp; rfl)); intro w15 hw; have hg : wr.grownBy w15 (some go13) := (by rw [hw]; exact HP14.2); have hp_ : Kd.R (Kd.int .u32) 103 w15 w.heap.size (fun k_ => (w.heap.size ≤ k_)) (.slice (some ⟨go13, 0, none⟩) x5_1.length co13) y430 := (by rw [hw, Ny430.out]; exact HP14.1); clear HP14; have n0_ := Azq.mk (hp_); have n1_ := Azq.mk ((by rw [hw]; exact wsq (HB.out) GB13.out : Below w.heap.size w w15)); clear HO_5; clear HB; have HO_5 := n0_; have HB := n1_; clear n0_ n1_; clear hg hw hp_))
          go_roundg k1
          case measure => have := HK1.out; omega
          case rel => exact ⟨(y430), ((IntKind.u64.wrap ((IntKind.u64.wrap (x6_1 + (IntKind.u64.wrap (rd l0 x22_1)))) + (IntKind.u64.wrap (rd l1 x22_1)))) / 4294967296), (wrap64 (x22_1 + 1)), (by first | rfl | (simp; done) | (simp [*]; done)), (by first | rfl | (simp; done) | (simp [*]; done)), H', ⟨by have := HK1.out; omega⟩, ⟨by (with_reducible repeat (first | apply Kd.R_alloc | apply Kd.R_drewN | apply Kd.R_drew)); exact HO_5.out⟩, ⟨by repeat (first | (with_reducible first | exact HB.out | apply waq | apply wdq | apply wrq) | exact HB.out)⟩⟩
         ·rw [if_neg c12] at H
          exact absurd H (by simp)
        ·rw [if_neg c11] at H
         have c11b0 : decide (x22_1 < (l1.length : Int)) = false := decide_eq_false c11
         clear c11
         by_cases c16 : x22_1 < (x5_1.length : Int)
         ·rw [if_pos c16] at H
          have c16b0 : decide (x22_1 < (x5_1.length : Int)) = true := decide_eq_true c16
          clear c16
          obtain ⟨y431, hy431⟩ : ∃ y_ : List Int, y_ = (x5_1.set (x22_1 : Int).toNat ((IntKind.u64.wrap (x6_1 + (IntKind.u64.wrap (rd l0 x22_1)))) % 4294967296)) := ⟨_, rfl⟩
          replace H : (impl_magAdd.l0 k1 l0 l1 y431 ((IntKind.u64.wrap (x6_1 + (IntKind.u64.wrap (rd l0 x22_1)))) / 4294967296) l0 (l0.length : Int) (wrap64 (x22_1 + 1))) = some r := by first | (rw [hy431]; with_reducible exact H) | (have H2_ := (Option.bind_some _ _).symm.trans H; rw [hy431]; with_reducible exact H2_) | (have H2_ := (Option.bind_some _ _).symm.trans H; with_reducible exact H2_) | with_reducible exact H | (rw [hy431]; exact H) | exact H
          have Ny431 := Azq.mk hy431
          clear hy431
          have H' := Azq.mk H
          clear H
          have p428 : 0 ≤ (x22_1 : Int) := of_decide_eq_true (by first | (with_reducible assumption) | assumption)
          have q428 : x22_1 < (l0.length : Int) := of_decide_eq_true (by first | (with_reducible assumption) | assumption)
          obtain ⟨ad428, e428, hx428_0⟩ := Kd.at_int HR0.out x22_1 p428 q428
          cases e428
          replace hx428_0 := (HB.out.cell (World.block_lt_of_cell? w _ hx428_0)).trans hx428_0
          replace p428 := eq_true p428
          replace q428 := eq_true q428
          have p17 : 0 ≤ (x22_1 : Int) := of_decide_eq_true (by first | (with_reducible assumption) | assumption)
          have q17 : (x22_1 : Int) < ((x5_1.length : Int) : Int) := of_decide_eq_true (by first | (with_reducible assumption) | assumption)
          obtain ⟨go17, co17, eo17, gb17, gl17, cl17, HG17⟩ := Kd.R_form HO_5.out (by omega)
          (first | cases eo17 | (injection eo17 with ea_ en_ ec_; (first | subst ea_ | (injection ea_ with ea_; subst ea_)); subst ec_; clear en_))
          have GB17 := Azq.mk gb17
          have GG17 := Azq.mk HG17
          clear gb17 gl17 HG17
          obtain ⟨hx17_0, hf17_0⟩ := Kd.R_celln 0 HO_5.out (x22_1 : Int) p17 q17
          replace p17 := eq_true p17
          replace q17 := eq_true q17
          have HP18 := Kd.R_putg HO_5.out (x22_1 : Int) ((IntKind.u64.wrap (x6_1 + (IntKind.u64.wrap (rd l0 x22_1)))) % 4294967296)
          go_wp2_with (first | ((with_reducible refine gate_store (t := 103) (p := 46) rfl ?_); refine store_event (t := 103) (p := 46) (v := ?vo_w19) (w1 := (wr.setCell ⟨go17, (x22_1 : Int).toNat, none⟩ (.int .u32 ((IntKind.u64.wrap (x6_1 + (IntKind.u64.wrap (rd l0 x22_1)))) % 4294967296)))) ?hg ?ho ?hn ?hr ?_; (case ho => rfl); (case hg => rfl); (case hn => rfl); (case hr => first | (go_simp; done) | (go_simp; rfl)); intro w19 hw; have hg : wr.grownBy w19 (some go17) := (by rw [hw]; exact HP18.2); have hp_ : Kd.R (Kd.int .u32) 103 w19 w.heap.size (fun k_ => (w.heap.size ≤ k_)) (.slice (some ⟨go17, 0, none⟩) x5_1.length co17) y431 := (by rw [hw, Ny431.out]; exact HP18.1); clear HP18; have n0_ := Azq.mk (hp_); have n1_ := Azq.mk ((by rw [hw]; exact wsq (HB.out) GB17.out : Below w.heap.size w w19)); clear HO_5; clear HB; have HO_5 := n0_; have HB := n1_; clear n0_ n1_; clear hg hw hp_))
          go_roundg k1
          case measure => have := HK1.out; omega
          case rel => exact ⟨(y431), ((IntKind.u64.wrap (x6_1 + (IntKind.u64.wrap (rd l0 x22_1)))) / 4294967296), (wrap64 (x22_1 + 1)), (by first | rfl | (simp; done) | (simp [*]; done)), (by first | rfl | (simp; done) | (simp [*]; done)), H', ⟨by have := HK1.out; omega⟩, ⟨by (with_reducible repeat (first | apply Kd.R_alloc | apply Kd.R_drewN | apply Kd.R_drew)); exact HO_5.out⟩, ⟨by repeat (first | (with_reducible first | exact HB.out | apply waq | apply wdq | apply wrq) | exact HB.out)⟩⟩
         ·rw [if_neg c16] at H
          exact absurd H (by simp)
       ·rw [if_neg c10] at H
        exact absurd H (by simp)
      ·rw [if_neg c9] at H
       exact absurd H (by simp)
     ·rw [if_neg c8] at H
      have c8b0 : decide (x22_1 < (l0.length : Int)) = false := decide_eq_false c8
      clear c8
      by_cases c20 : 0 ≤ (l0.length : Int)
      ·rw [if_pos c20] at H
       have c20b0 : decide (0 ≤ (l0.length : Int)) = true := decide_eq_true c20
       have c20b1 : decide (0 ≤ l0.length) = true := decide_eq_true (by omega)
       clear c20
       by_cases c21 : (l0.length : Int) < (x5_1.length : Int)
       ·rw [if_pos c21] at H
        have c21b0 : decide ((l0.length : Int) < (x5_1.length : Int)) = true := decide_eq_true c21
        have c21b1 : decide (l0.length < x5_1.length) = true := decide_eq_true (Int.ofNat_lt.mp c21)
        clear c21
        obtain ⟨y432, hy432⟩ : ∃ y_ : List Int, y_ = (x5_1.set ((l0.length : Int) : Int).toNat ((x6_1) % 4294967296)) := ⟨_, rfl⟩
        replace H : ((impl_magTrim.f k1 y432).bind fun t433 => (some t433)) = some r := by first | (rw [hy432]; with_reducible exact H) | (have H2_ := (Option.bind_some _ _).symm.trans H; rw [hy432]; with_reducible exact H2_) | (have H2_ := (Option.bind_some _ _).symm.trans H; with_reducible exact H2_) | with_reducible exact H | (rw [hy432]; exact H) | exact H
        have Ny432 := Azq.mk hy432
        clear hy432
        replace H := Option.bind_eq_some_iff.mp H
        obtain ⟨t433, A230, H⟩ := H
        replace H : (some t433) = some r := H
        have A23 := Azq.mk A230
        clear A230
        obtain rfl := Option.some.inj H
        have p22 : 0 ≤ ((l0.length : Int) : Int) := of_decide_eq_true (by first | (with_reducible assumption) | assumption)
        have q22 : ((l0.length : Int) : Int) < ((x5_1.length : Int) : Int) := of_decide_eq_true (by first | (with_reducible assumption) | assumption)
        obtain ⟨go22, co22, eo22, gb22, gl22, cl22, HG22⟩ := Kd.R_form HO_5.out (by omega)
        (first | cases eo22 | (injection eo22 with ea_ en_ ec_; (first | subst ea_ | (injection ea_ with ea_; subst ea_)); subst ec_; clear en_))
        have GB22 := Azq.mk gb22
        have GG22 := Azq.mk HG22
        clear gb22 gl22 HG22
        obtain ⟨hx22_0, hf22_0⟩ := Kd.R_celln 0 HO_5.out ((l0.length : Int) : Int) p22 q22
        simp only [Int.toNat_natCast] at hx22_0 hf22_0
        replace p22 := eq_true p22
        replace q22 := eq_true q22
        have HP24 := Kd.R_putg HO_5.out ((l0.length : Int) : Int) ((x6_1) % 4294967296)
        go_wp2_with (first | ((with_reducible refine gate_store (t := 103) (p := 55) rfl ?_); refine store_event (t := 103) (p := 55) (v := ?vo_w25) (w1 := (wr.setCell ⟨go22, ((l0.length : Int) : Int).toNat, none⟩ (.int .u32 ((x6_1) % 4294967296)))) ?hg ?ho ?hn ?hr ?_; (case ho => rfl); (case hg => rfl); (case hn => rfl); (case hr => first | (go_simp; done) | (go_simp; rfl)); intro w25 hw; have hg : wr.grownBy w25 (some go22) := (by rw [hw]; exact HP24.2); have hp_ : Kd.R (Kd.int .u32) 103 w25 w.heap.size (fun k_ => (w.heap.size ≤ k_)) (.slice (some ⟨go22, 0, none⟩) x5_1.length co22) y432 := (by rw [hw, Ny432.out]; exact HP24.1); clear HP24; have n0_ := Azq.mk (hp_); have n1_ := Azq.mk ((by rw [hw]; exact wsq (HB.out) GB22.out : Below w.heap.size w w25)); clear HO_5; clear HB; have HO_5 := n0_; have HB := n1_; clear n0_ n1_; clear hg hw hp_) | ((with_reducible refine gate_callee (f := 109) rfl ?_); refine goesL_ (some 57) rfl rfl Tryz.func109 (by kernel_rfl) rfl #[.slice (some ⟨go22, 0, none⟩) y432.length co22] rfl (by (try simp only [List.map_toArray, List.map_cons, List.map_nil]); first | done | (rw [show y432.length = x5_1.length from (Kd.R_reads' HO_5.out).1.symm] <;> rfl) | rfl | (simp only [List.length_drop, List.length_take]; rfl)) ?_; (with_reducible refine (impl_magTrim.calls k1 (fun k_ => some k_ = (.slice (some ⟨go22, 0, none⟩) x5_1.length co22 : Value).ownBlock) _ _ y432 t433 _ ?side1 A23.out).mono ?_); (case side1 => rw [show y432.length = x5_1.length from (Kd.R_reads' HO_5.out).1.symm]; exact Kd.R_V (Kd.R_tight rfl (HO_5.out))); rintro e w26 ⟨v434, rfl, ho0, hb⟩; refine ⟨_, rfl, ?_⟩; have n0_ := Azq.mk (Kd.R_below (by (with_reducible repeat (first | apply Kd.R_alloc | apply Kd.R_drewN | apply Kd.R_drew)); exact HO_5.out) hb); have n1_ := Azq.mk (Kd.V_lower (Kd.V_mono (ok' := fun k_ => (w.heap.size ≤ k_)) ho0 (fun k_ hk_ => Or.elim hk_ (fun hs_ => ((HO_5.out).1 k_ hs_.symm)) (fun hn_ => (Nat.le_trans (wzq (by repeat (first | (with_reducible first | exact HB.out | apply waq | apply wdq | apply wrq) | exact HB.out))) hn_)))) (wzq (by repeat (first | (with_reducible first | exact HB.out | apply waq | apply wdq | apply wrq) | exact HB.out)))); have n2_ := Azq.mk (wtq (by repeat (first | (with_reducible first | exact HB.out | apply waq | apply wdq | apply wrq) | exact HB.out)) hb); clear HO_5; clear HB; have HO_5 := n0_; have HO435 := n1_; have HB := n2_; clear n0_ n1_ n2_; (try clear hb); (try clear hb2); (try clear hk); (try clear hi); (try clear ho0)))
        go_ret
        exact ⟨_, by first | rfl | (simp [errW_none, errW_some] <;> rfl) | (simp only [← hji3]; first | rfl | (simp [errW_none, errW_some] <;> rfl)) | (simp [*, errW_none, errW_some] <;> rfl), by (with_reducible repeat (first | apply Kd.V_alloc | apply Kd.V_drewN | apply Kd.V_drew)); exact HO435.out, by repeat (first | (with_reducible first | exact HB.out | apply waq | apply wdq | apply wrq) | exact HB.out)⟩
       ·rw [if_neg c21] at H
        exact absurd H (by simp)
      ·rw [if_neg c20] at H
       exact absurd H (by simp)
  ·rw [if_neg c5] at H
   exact absurd H (by simp)
 ·rw [if_neg c4] at H
  exact absurd H (by simp)
end Go.Proofs.YtjggbalhpflbbaaGreat.PW
end
section
namespace Go.Proofs.YtjggbalhpflbbaaGreat.PW
open Go.RowKit Go.Proofs.YtjggbalhpflbbaaGreatW.PrintWords Go.Proofs.YtjggbalhpflbbaaGreatW.PrintLast Go.Proofs.YtjggbalhpflbbaaGreatW.PrintMore
attribute [local go_sem] max2_int min2_int max_two min_two max_three min_three max_four min_four   -- for this text's walks alone
set_option linter.unusedVariables false
set_option linter.unusedSimpArgs false
def impl_magLeft.l0 : Nat → Int → List Int → List Int → Int → Int → Option (List Int)
 | 0, _, _, _, _, _ => none
 | k + 1, x1, x5, x20, x21, x22 => if x22 < x21 then (if 0 ≤ x22 then (if x22 < (x20.length : Int) then (if 0 ≤ (Int.tmod x1 32) then (if 0 ≤ (wrap64 ((wrap64 (IntKind.u64.wrap (Int.tdiv x1 32))) + x22)) then (if (wrap64 ((wrap64 (IntKind.u64.wrap (Int.tdiv x1 32))) + x22)) < (x5.length : Int) then (if 0 ≤ (wrap64 ((wrap64 ((wrap64 (IntKind.u64.wrap (Int.tdiv x1 32))) + x22)) + 1)) then (if (wrap64 ((wrap64 ((wrap64 (IntKind.u64.wrap (Int.tdiv x1 32))) + x22)) + 1)) < (x5.length : Int) then (impl_magLeft.l0 k x1 ((x5.set ((wrap64 ((wrap64 (IntKind.u64.wrap (Int.tdiv x1 32))) + x22)) : Int).toNat (Go.bits .or .u32 (rd x5 (wrap64 ((wrap64 (IntKind.u64.wrap (Int.tdiv x1 32))) + x22))) ((shl .u64 (IntKind.u64.wrap (rd x20 x22)) (Int.tmod x1 32)) % 4294967296))).set ((wrap64 ((wrap64 ((wrap64 (IntKind.u64.wrap (Int.tdiv x1 32))) + x22)) + 1)) : Int).toNat (((shl .u64 (IntKind.u64.wrap (rd x20 x22)) (Int.tmod x1 32)) / 4294967296) % 4294967296)) x20 x21 (wrap64 (x22 + 1))) else (none)) else (none)) else (none)) else (none)) else (none)) else (none)) else (none)) else ((impl_magTrim.f k x5).bind fun t391 => (some t391))
def impl_magLeft.f (k : Nat) (l0 : List Int) (a1 : Int) : Option (List Int) := if (l0.length : Int) = 0 then (some ([] : List Int)) else (if 0 ≤ (wrap64 ((wrap64 ((wrap64 (IntKind.u64.wrap (Int.tdiv a1 32))) + (l0.length : Int))) + 1)) then (if (wrap64 ((wrap64 ((wrap64 (IntKind.u64.wrap (Int.tdiv a1 32))) + (l0.length : Int))) + 1) : Int).toNat ≤ 70368744177664 then (impl_magLeft.l0 k a1 (List.replicate (wrap64 ((wrap64 ((wrap64 (IntKind.u64.wrap (Int.tdiv a1 32))) + (l0.length : Int))) + 1) : Int).toNat 0) l0 (l0.length : Int) 0) else (none)) else (none))
theorem impl_magLeft.mono_l : ∀ k, (∀ y0 y1 y2 y3 y4, LeO (impl_magLeft.l0 k y0 y1 y2 y3 y4) (impl_magLeft.l0 (k + 1) y0 y1 y2 y3 y4))
 | 0 => fun _ _ _ _ _ r h => by simp [impl_magLeft.l0] at h
 | k + 1 => by
  have ih0 := impl_magLeft.mono_l k
  ·intro y0 y1 y2 y3 y4
   unfold impl_magLeft.l0
   repeat' first
   | (with_reducible exact ih0 _ _ _ _ _)
   | (with_reducible exact impl_magTrim.mono _ _)
   | (with_reducible exact LeO.refl _)
   | (with_reducible exact LeO.none _)
   | (with_reducible refine LeO.ite ?_ ?_)
   | (with_reducible refine LeO.bind ?_ (fun _ => ?_))
   | exact ih0 _ _ _ _ _
   | exact impl_magTrim.mono _ _
   | exact LeO.none _
   | refine LeO.ite ?_ ?_
   | refine LeO.bind ?_ (fun _ => ?_)
theorem impl_magLeft.mono : ∀ a0 a1 k, LeO (impl_magLeft.f k a0 a1) (impl_magLeft.f (k + 1) a0 a1) := by
 intro a0 a1 k
 have ih0 := impl_magLeft.mono_l k
 unfold impl_magLeft.f
 repeat' first
   | (with_reducible exact ih0 _ _ _ _ _)
   | (with_reducible exact impl_magTrim.mono _ _)
   | (with_reducible exact LeO.refl _)
   | (with_reducible exact LeO.none _)
   | (with_reducible refine LeO.ite ?_ ?_)
   | (with_reducible refine LeO.bind ?_ (fun _ => ?_))
   | exact ih0 _ _ _ _ _
   | exact impl_magTrim.mono _ _
   | exact LeO.none _
   | refine LeO.ite ?_ ?_
   | refine LeO.bind ?_ (fun _ => ?_)
set_option maxHeartbeats 8000000 in
set_option maxRecDepth 100000 in
theorem impl_magLeft.calls (k : Nat) (A0 : Option Addr) (c0 : Nat) (l0 : List Int) (a1 : Int) (r : List Int) (w : World) (hr0 : Kd.C (Kd.int .u32) w A0 l0.length l0) (hc0 : l0.length ≤ c0) (h : impl_magLeft.f k l0 a1 = some r) :
  Calls Tryz.prog 99 #[.slice A0 l0.length c0, .int .u64 a1] w fun e w' => ∃ v0_ : Value, e = .returned (v0_) ∧ Kd.V (Kd.int .u32) 103 w' w.heap.size (fun k_ => (w.heap.size ≤ k_)) v0_ r ∧ Below w.heap.size w w' := by
 have HR0 := Azq.mk hr0
 have HC0 := Azq.mk hc0
 clear hr0 hc0
 have HB := Azq.mk (Below.refl w.heap.size w)
 have H : (if (l0.length : Int) = 0 then (some ([] : List Int)) else (if 0 ≤ (wrap64 ((wrap64 ((wrap64 (IntKind.u64.wrap (Int.tdiv a1 32))) + (l0.length : Int))) + 1)) then (if (wrap64 ((wrap64 ((wrap64 (IntKind.u64.wrap (Int.tdiv a1 32))) + (l0.length : Int))) + 1) : Int).toNat ≤ 70368744177664 then (impl_magLeft.l0 k a1 (List.replicate (wrap64 ((wrap64 ((wrap64 (IntKind.u64.wrap (Int.tdiv a1 32))) + (l0.length : Int))) + 1) : Int).toNat 0) l0 (l0.length : Int) 0) else (none)) else (none))) = some r := h
 clear h
 by_cases c3 : (l0.length : Int) = 0
 ·rw [if_pos c3] at H
  have c3b0 : ((l0.length : Int) == 0) = true := beq_iff_eq.mpr c3
  have c3b1 : ((l0.length : Int) != 0) = false := bne_eq_false_iff_eq.mpr c3
  clear c3
  obtain rfl := Option.some.inj H
  go_enter Tryz.func99, Tryz.ntmps99
  go_wp2
  go_ret
  exact ⟨.slice none 0 0, by first | rfl | (simp [errW_none, errW_some] <;> rfl) | (simp [*, errW_none, errW_some] <;> rfl), Kd.V_nil _ _ _ _ _, by repeat (first | (with_reducible first | exact HB.out | apply waq | apply wdq | apply wrq) | exact HB.out)⟩
 ·rw [if_neg c3] at H
  have c3b0 : ((l0.length : Int) == 0) = false := beq_eq_false_iff_ne.mpr c3
  have c3b1 : ((l0.length : Int) != 0) = true := bne_iff_ne.mpr c3
  have c3b2 : ¬ (l0 = []) := fun h_ => c3 (by rw [h_]; rfl)
  obtain ⟨ji4, hji4⟩ : ∃ j_ : Int, (wrap64 ((wrap64 ((wrap64 (IntKind.u64.wrap (Int.tdiv a1 32))) + (l0.length : Int))) + 1)) = j_ := ⟨_, rfl⟩
  replace H : (if 0 ≤ (ji4) then (if (ji4 : Int).toNat ≤ 70368744177664 then (impl_magLeft.l0 k a1 (List.replicate (ji4 : Int).toNat 0) l0 (l0.length : Int) 0) else (none)) else (none)) = some r := by first | (rw [hji4] at H; exact H) | (simp only [hji4] at H ⊢; exact H)
  have hji4w : (IntKind.i64.wrap ((wrap64 ((wrap64 (IntKind.u64.wrap (Int.tdiv a1 32))) + (l0.length : Int))) + 1)) = ji4 := (i64_w _).trans hji4
  by_cases c5 : 0 ≤ (ji4)
  ·rw [if_pos c5] at H
   have c5b0 := eq_true c5
   have c5b1 : decide (0 ≤ (ji4)) = true := decide_eq_true c5
   clear c5
   by_cases c6 : (ji4 : Int).toNat ≤ 70368744177664
   ·rw [if_pos c6] at H
    have c6b0 := eq_true c6
    have c6b1 : decide ((ji4 : Int).toNat ≤ 70368744177664) = true := decide_eq_true c6
    clear c6
    obtain ⟨y384, hy384⟩ : ∃ y_ : List Int, y_ = (List.replicate (ji4 : Int).toNat 0) := ⟨_, rfl⟩
    replace H : (impl_magLeft.l0 k a1 y384 l0 (l0.length : Int) 0) = some r := by first | (rw [hy384]; with_reducible exact H) | (have H2_ := (Option.bind_some _ _).symm.trans H; rw [hy384]; with_reducible exact H2_) | (have H2_ := (Option.bind_some _ _).symm.trans H; with_reducible exact H2_) | with_reducible exact H | (rw [hy384]; exact H) | exact H
    have Ny384 := Azq.mk hy384
    clear hy384
    have H' := Azq.mk H
    clear H
    go_enter Tryz.func99, Tryz.ntmps99
    go_wp2_with (first | ((with_reducible refine gate_dst (N := 19) rfl ?_); refine Kd.R_make (Kd.int .u32) _ 103 rfl (N := 19) rfl 92 _ _ rfl ji4 rfl rfl Tryz.underlying92 (.int .u32 0) 4 info103 rfl (by decide) (by omega) 0 (ok := fun _ => True) (okp := fun _ => True) rfl (fun _ hk => hk) trivial (of_decide_eq_true (by first | (with_reducible assumption) | assumption)) (Nat.le_trans (Nat.mul_le_mul_right _ (of_decide_eq_true (by first | (with_reducible assumption) | assumption) : ji4.toNat ≤ 70368744177664)) (by omega)) (Below.refl _ _) (Nat.le_refl _) ?_; intro v385 w7 ho8 hb hg_ hnew_; clear hg_ hnew_; (first | rw [← Ny384.out] at ho8 | (simp only [Int.reduceToNat] at ho8; rw [← Ny384.out] at ho8)); have n0_ := Azq.mk (Kd.R_lower (Kd.R_newM (M := fun k_ => (w.heap.size ≤ k_)) ho8 (wzq (by repeat (first | (with_reducible first | exact HB.out | apply waq | apply wdq | apply wrq) | exact HB.out))) (fun k_ h_ => h_)) (wzq (by repeat (first | (with_reducible first | exact HB.out | apply waq | apply wdq | apply wrq) | exact HB.out)))); have n1_ := Azq.mk (wtq (by repeat (first | (with_reducible first | exact HB.out | apply waq | apply wdq | apply wrq) | exact HB.out)) hb); clear HB; have HO386 := n0_; have HB := n1_; clear n0_ n1_; clear hb ho8))
    go_loopg [22] k (fun kq v22 w' => ∃ (x5_1 : List Int) (x22_1 : Int), v22 = .int .i64 x22_1 ∧ Azq (impl_magLeft.l0 kq a1 x5_1 l0 (l0.length : Int) x22_1 = some r) ∧ Azq (kq ≤ k) ∧ Azq (Kd.R (Kd.int .u32) 103 w' w.heap.size (fun k_ => (w.heap.size ≤ k_)) v385 x5_1) ∧ Azq (Below w.heap.size w w'))
    case atStart => exact ⟨(y384), (0), (by first | rfl | (simp; done) | (simp [*]; done)), H', ⟨Nat.le_refl _⟩, ⟨by (with_reducible repeat (first | apply Kd.R_alloc | apply Kd.R_drewN | apply Kd.R_drew)); exact Kd.R_mono HO386.out (fun _ hk => hk.1)⟩, ⟨by repeat (first | (with_reducible first | exact HB.out | apply waq | apply wdq | apply wrq) | exact HB.out)⟩⟩
    case round =>
     clear H'
     try clear p2
     try clear c3
     try clear c3b0
     try clear c3b1
     try clear c3b2
     try clear c5
     try clear c5b0
     try clear c5b1
     try clear c6
     try clear c6b0
     try clear c6b1
     try clear p6
     obtain ⟨x5_1, x22_1, rfl, HA, HK1, HO_5, HB⟩ := hrel
     cases gk with
     | zero => exact absurd HA.out (by simp [impl_magLeft.l0])
     | succ k1 =>
      have H := HA.out
      clear HA
      simp only [impl_magLeft.l0] at H
      by_cases c9 : x22_1 < (l0.length : Int)
      ·rw [if_pos c9] at H
       have c9b0 : decide (x22_1 < (l0.length : Int)) = true := decide_eq_true c9
       clear c9
       by_cases c10 : 0 ≤ x22_1
       ·rw [if_pos c10] at H
        have c10b0 : decide (0 ≤ x22_1) = true := decide_eq_true c10
        clear c10
        by_cases c11 : x22_1 < (l0.length : Int)
        ·rw [if_pos c11] at H
         have c11b0 : decide (x22_1 < (l0.length : Int)) = true := decide_eq_true c11
         clear c11
         obtain ⟨ji12, hji12⟩ : ∃ j_ : Int, (Int.tmod a1 32) = j_ := ⟨_, rfl⟩
         replace H : (if 0 ≤ (ji12) then (if 0 ≤ (wrap64 ((wrap64 (IntKind.u64.wrap (Int.tdiv a1 32))) + x22_1)) then (if (wrap64 ((wrap64 (IntKind.u64.wrap (Int.tdiv a1 32))) + x22_1)) < (x5_1.length : Int) then (if 0 ≤ (wrap64 ((wrap64 ((wrap64 (IntKind.u64.wrap (Int.tdiv a1 32))) + x22_1)) + 1)) then (if (wrap64 ((wrap64 ((wrap64 (IntKind.u64.wrap (Int.tdiv a1 32))) + x22_1)) + 1)) < (x5_1.length : Int) then (impl_magLeft.l0 k1 a1 ((x5_1.set ((wrap64 ((wrap64 (IntKind.u64.wrap (Int.tdiv a1 32))) + x22_1)) : Int).toNat (Go.bits .or .u32 (rd x5_1 (wrap64 ((wrap64 (IntKind.u64.wrap (Int.tdiv a1 32))) + x22_1))) ((shl .u64 (IntKind.u64.wrap (rd l0 x22_1)) (ji12)) % 4294967296))).set ((wrap64 ((wrap64 ((wrap64 (IntKind.u64.wrap (Int.tdiv a1 32))) + x22_1)) + 1)) : Int).toNat (((shl .u64 (IntKind.u64.wrap (rd l0 x22_1)) (ji12)) / 4294967296) % 4294967296)) l0 (l0.length : Int) (wrap64 (x22_1 + 1))) else (none)) else (none)) else (none)) else (none)) else (none)) = some r := by first | (rw [hji12] at H; exact H) | (simp only [hji12] at H ⊢; exact H)
         by_cases c13 : 0 ≤ (ji12)
         ·rw [if_pos c13] at H
          have c13b0 := eq_true c13
          have c13b1 : decide (0 ≤ (ji12)) = true := decide_eq_true c13
          clear c13
          obtain ⟨ji14, hji14⟩ : ∃ j_ : Int, (shl .u64 (IntKind.u64.wrap (rd l0 x22_1)) (ji12)) = j_ := ⟨_, rfl⟩
          replace H : (if 0 ≤ (wrap64 ((wrap64 (IntKind.u64.wrap (Int.tdiv a1 32))) + x22_1)) then (if (wrap64 ((wrap64 (IntKind.u64.wrap (Int.tdiv a1 32))) + x22_1)) < (x5_1.length : Int) then (if 0 ≤ (wrap64 ((wrap64 ((wrap64 (IntKind.u64.wrap (Int.tdiv a1 32))) + x22_1)) + 1)) then (if (wrap64 ((wrap64 ((wrap64 (IntKind.u64.wrap (Int.tdiv a1 32))) + x22_1)) + 1)) < (x5_1.length : Int) then (impl_magLeft.l0 k1 a1 ((x5_1.set ((wrap64 ((wrap64 (IntKind.u64.wrap (Int.tdiv a1 32))) + x22_1)) : Int).toNat (Go.bits .or .u32 (rd x5_1 (wrap64 ((wrap64 (IntKind.u64.wrap (Int.tdiv a1 32))) + x22_1))) ((ji14) % 4294967296))).set ((wrap64 ((wrap64 ((wrap64 (IntKind.u64.wrap (Int.tdiv a1 32))) + x22_1)) + 1)) : Int).toNat (((ji14) / 4294967296) % 4294967296)) l0 (l0.length : Int) (wrap64 (x22_1 + 1))) else (none)) else (none)) else (none)) else (none)) = some r := by first | (rw [hji14] at H; exact H) | (simp only [hji14] at H ⊢; exact H)
          have hji14_ : (IntKind.u64.wrap ((IntKind.u64.wrap (rd l0 x22_1)) * 2 ^ min (ji12).toNat 64)) = ji14 := hji14
          have hji14z : (ji12) ≤ 64 → (IntKind.u64.wrap ((IntKind.u64.wrap (rd l0 x22_1)) * 2 ^ (ji12).toNat)) = ji14 := shl_small hji14
          obtain ⟨ji15, hji15⟩ : ∃ j_ : Int, (wrap64 ((wrap64 (IntKind.u64.wrap (Int.tdiv a1 32))) + x22_1)) = j_ := ⟨_, rfl⟩
          replace H : (if 0 ≤ (ji15) then (if (ji15) < (x5_1.length : Int) then (if 0 ≤ (wrap64 ((ji15) + 1)) then (if (wrap64 ((ji15) + 1)) < (x5_1.length : Int) then (impl_magLeft.l0 k1 a1 ((x5_1.set ((ji15) : Int).toNat (Go.bits .or .u32 (rd x5_1 (ji15)) ((ji14) % 4294967296))).set ((wrap64 ((ji15) + 1)) : Int).toNat (((ji14) / 4294967296) % 4294967296)) l0 (l0.length : Int) (wrap64 (x22_1 + 1))) else (none)) else (none)) else (none)) else (none)) = some r := by first | (rw [hji15] at H; exact H) | (simp only [hji15] at H ⊢; exact H)
          have hji15w : (IntKind.i64.wrap ((wrap64 (IntKind.u64.wrap (Int.tdiv a1 32))) + x22_1)) = ji15 := (i64_w _).trans hji15
          by_cases c16 : 0 ≤ (ji15)
          ·rw [if_pos c16] at H
           have c16b0 : decide (0 ≤ (ji15)) = true := decide_eq_true c16
           clear c16
           by_cases c17 : (ji15) < (x5_1.length : Int)
           ·rw [if_pos c17] at H
            have c17b0 : decide ((ji15) < (x5_1.length : Int)) = true := decide_eq_true c17
            clear c17
            obtain ⟨y389, hy389⟩ : ∃ y_ : List Int, y_ = (x5_1.set ((ji15) : Int).toNat (Go.bits .or .u32 (rd x5_1 (ji15)) ((ji14) % 4294967296))) := ⟨_, rfl⟩
            replace H : (if 0 ≤ (wrap64 ((ji15) + 1)) then (if (wrap64 ((ji15) + 1)) < (x5_1.length : Int) then (impl_magLeft.l0 k1 a1 (y389.set ((wrap64 ((ji15) + 1)) : Int).toNat (((ji14) / 4294967296) % 4294967296)) l0 (l0.length : Int) (wrap64 (x22_1 + 1))) else (none)) else (none)) = some r := by first | (rw [hy389]; with_reducible exact H) | (have H2_ := (Option.bind_some _ _).symm.trans H; rw [hy389]; with_reducible exact H2_) | (have H2_ := (Option.bind_some _ _).symm.trans H; with_reducible exact H2_) | with_reducible exact H | (rw [hy389]; exact H) | exact H
            have Ny389 := Azq.mk hy389
            clear hy389
            obtain ⟨ji19, hji19⟩ : ∃ j_ : Int, (wrap64 ((ji15) + 1)) = j_ := ⟨_, rfl⟩
            replace H : (if 0 ≤ (ji19) then (if (ji19) < (x5_1.length : Int) then (impl_magLeft.l0 k1 a1 (y389.set ((ji19) : Int).toNat (((ji14) / 4294967296) % 4294967296)) l0 (l0.length : Int) (wrap64 (x22_1 + 1))) else (none)) else (none)) = some r := by first | (rw [hji19] at H; exact H) | (simp only [hji19] at H ⊢; exact H)
            have hji19w : (IntKind.i64.wrap ((ji15) + 1)) = ji19 := (i64_w _).trans hji19
            by_cases c20 : 0 ≤ (ji19)
            ·rw [if_pos c20] at H
             have c20b0 : decide (0 ≤ (ji19)) = true := decide_eq_true c20
             clear c20
             by_cases c21 : (ji19) < (x5_1.length : Int)
             ·rw [if_pos c21] at H
              have c21b0 : decide ((ji19) < (x5_1.length : Int)) = true := decide_eq_true c21
              clear c21
              obtain ⟨y390, hy390⟩ : ∃ y_ : List Int, y_ = (y389.set ((ji19) : Int).toNat (((ji14) / 4294967296) % 4294967296)) := ⟨_, rfl⟩
              replace H : (impl_magLeft.l0 k1 a1 y390 l0 (l0.length : Int) (wrap64 (x22_1 + 1))) = some r := by first | (rw [hy390]; with_reducible exact H) | (have H2_ := (Option.bind_some _ _).symm.trans H; rw [hy390]; with_reducible exact H2_) | (have H2_ := (Option.bind_some _ _).symm.trans H; with_reducible exact H2_) | with_reducible exact H | (rw [hy390]; exact H) | exact H
              have Ny390 := Azq.mk hy390
              clear hy390
              have H' := Azq.mk H
              clear H
              have p387 : 0 ≤ (x22_1 : Int) := of_decide_eq_true (by first | (with_reducible assumption) | assumption)
              have q387 : x22_1 < (l0.length : Int) := of_decide_eq_true (by first | (with_reducible assumption) | assumption)
              obtain ⟨ad387, e387, hx387_0⟩ := Kd.at_int HR0.out x22_1 p387 q387
              cases e387
              replace hx387_0 := (HB.out.cell (World.block_lt_of_cell? w _ hx387_0)).trans hx387_0
              replace p387 := eq_true p387
              replace q387 := eq_true q387
              obtain ⟨Ao23, co23, eo23⟩ := Kd.R_slice HO_5.out
              subst eo23
              have p388 : 0 ≤ ((ji15) : Int) := of_decide_eq_true (by first | (with_reducible assumption) | assumption)
              have q388 : (ji15) < (x5_1.length : Int) := of_decide_eq_true (by first | (with_reducible assumption) | assumption)
              obtain ⟨ad388, e388, hx388_0⟩ := Kd.at_int (Kd.R_reads' HO_5.out).2.2 (ji15) p388 q388
              cases e388
              replace p388 := eq_true p388
              replace q388 := eq_true q388
              have p18 : 0 ≤ ((ji15) : Int) := of_decide_eq_true (by first | (with_reducible assumption) | assumption)
              have q18 : ((ji15) : Int) < ((x5_1.length : Int) : Int) := of_decide_eq_true (by first | (with_reducible assumption) | assumption)
              obtain ⟨go18, co18, eo18, gb18, gl18, cl18, HG18⟩ := Kd.R_form HO_5.out (by omega)
              (first | cases eo18 | (injection eo18 with ea_ en_ ec_; (first | subst ea_ | (injection ea_ with ea_; subst ea_)); subst ec_; clear en_))
              have GB18 := Azq.mk gb18
              have GG18 := Azq.mk HG18
              clear gb18 gl18 HG18
              (first | simp only [add_plain] at hx388_0 | skip)
              obtain ⟨hx18_0, hf18_0⟩ := Kd.R_celln 0 HO_5.out ((ji15) : Int) p18 q18
              replace p18 := eq_true p18
              replace q18 := eq_true q18
              have HP24 := Kd.R_putg HO_5.out ((ji15) : Int) (Go.bits .or .u32 (rd x5_1 (ji15)) ((ji14) % 4294967296))
              go_wp2_with (first | ((with_reducible refine gate_store (t := 103) (p := 43) rfl ?_); refine store_event (t := 103) (p := 43) (v := ?vo_w25) (w1 := (wr.setCell ⟨go18, ((ji15) : Int).toNat, none⟩ (.int .u32 (Go.bits .or .u32 (rd x5_1 (ji15)) ((ji14) % 4294967296))))) ?hg ?ho ?hn ?hr ?_; (case ho => rfl); (case hg => rfl); (case hn => rfl); (case hr => first | (go_simp; done) | (go_simp; rfl)); intro w25 hw; have hg : wr.grownBy w25 (some go18) := (by rw [hw]; exact HP24.2); have hp_ : Kd.R (Kd.int .u32) 103 w25 w.heap.size (fun k_ => (w.heap.size ≤ k_)) (.slice (some ⟨go18, 0, none⟩) x5_1.length co23) y389 := (by rw [hw, Ny389.out]; exact HP24.1); clear HP24; have n0_ := Azq.mk (hp_); have n1_ := Azq.mk ((by rw [hw]; exact wsq (HB.out) GB18.out : Below w.heap.size w w25)); clear HO_5; clear HB; have HO_5 := n0_; have HB := n1_; clear n0_ n1_; clear hg hw hp_; have p22 : 0 ≤ ((ji19) : Int) := of_decide_eq_true (by first | (with_reducible assumption) | assumption); have q22 : ((ji19) : Int) < ((x5_1.length : Int) : Int) := of_decide_eq_true (by first | (with_reducible assumption) | assumption); obtain ⟨hx22_0, hf22_0⟩ := Kd.R_celln 0 HO_5.out ((ji19) : Int) p22 q22; replace p22 := eq_true p22; replace q22 := eq_true q22; obtain ⟨hy26_, hz26_⟩ := Kd.R_celln 0 HO_5.out ((ji19) : Int) (of_decide_eq_true (by first | (with_reducible assumption) | assumption)) (of_decide_eq_true (by first | (with_reducible assumption) | assumption)); have HP26 := Kd.R_putg HO_5.out ((ji19) : Int) (((ji14) / 4294967296) % 4294967296)) | ((with_reducible refine gate_store (t := 103) (p := 54) rfl ?_); refine store_event (t := 103) (p := 54) (v := ?vo_w27) (w1 := (w25.setCell ⟨go18, ((ji19) : Int).toNat, none⟩ (.int .u32 (((ji14) / 4294967296) % 4294967296)))) ?hg ?ho ?hn ?hr ?_; (case ho => rfl); (case hg => rfl); (case hn => rfl); (case hr => first | (go_simp; done) | (go_simp; rfl)); intro w27 hw; have hg : w25.grownBy w27 (some go18) := (by rw [hw]; exact HP26.2); have hp_ : Kd.R (Kd.int .u32) 103 w27 w.heap.size (fun k_ => (w.heap.size ≤ k_)) (.slice (some ⟨go18, 0, none⟩) x5_1.length co23) y390 := (by rw [hw, Ny390.out]; exact HP26.1); clear HP26; have n0_ := Azq.mk (hp_); have n1_ := Azq.mk ((by rw [hw]; exact wsq (HB.out) GB18.out : Below w.heap.size w w27)); clear HO_5; clear HB; have HO_5 := n0_; have HB := n1_; clear n0_ n1_; clear hg hw hp_))
              go_roundg k1
              case measure => have := HK1.out; omega
              case rel => exact ⟨(y390), (wrap64 (x22_1 + 1)), (by first | rfl | (simp; done) | (simp [*]; done)), H', ⟨by have := HK1.out; omega⟩, ⟨by (with_reducible repeat (first | apply Kd.R_alloc | apply Kd.R_drewN | apply Kd.R_drew)); exact HO_5.out⟩, ⟨by repeat (first | (with_reducible first | exact HB.out | apply waq | apply wdq | apply wrq) | exact HB.out)⟩⟩
             ·rw [if_neg c21] at H
              exact absurd H (by simp)
            ·rw [if_neg c20] at H
             exact absurd H (by simp)
           ·rw [if_neg c17] at H
            exact absurd H (by simp)
          ·rw [if_neg c16] at H
           exact absurd H (by simp)
         ·rw [if_neg c13] at H
          exact absurd H (by simp)
        ·rw [if_neg c11] at H
         exact absurd H (by simp)
       ·rw [if_neg c10] at H
        exact absurd H (by simp)
      ·rw [if_neg c9] at H
       have c9b0 : decide (x22_1 < (l0.length : Int)) = false := decide_eq_false c9
       clear c9
       replace H := Option.bind_eq_some_iff.mp H
       obtain ⟨t391, A280, H⟩ := H
       replace H : (some t391) = some r := H
       have A28 := Azq.mk A280
       clear A280
       obtain rfl := Option.some.inj H
       obtain ⟨Ao29, co29, eo29⟩ := Kd.R_slice HO_5.out
       subst eo29
       go_wp2_with (first | ((with_reducible refine gate_callee (f := 109) rfl ?_); refine goesL_ (some 57) rfl rfl Tryz.func109 (by kernel_rfl) rfl #[.slice Ao29 x5_1.length co29] rfl (by (try simp only [List.map_toArray, List.map_cons, List.map_nil]); first | done | rfl | (simp only [List.length_drop, List.length_take]; rfl)) ?_; (with_reducible refine (impl_magTrim.calls k1 (fun k_ => some k_ = (.slice Ao29 x5_1.length co29 : Value).ownBlock) _ _ x5_1 t391 _ ?side1 A28.out).mono ?_); (case side1 => exact Kd.R_V (Kd.R_tight rfl (HO_5.out))); rintro e w30 ⟨v392, rfl, ho0, hb⟩; refine ⟨_, rfl, ?_⟩; have n0_ := Azq.mk (Kd.R_below (by (with_reducible repeat (first | apply Kd.R_alloc | apply Kd.R_drewN | apply Kd.R_drew)); exact HO_5.out) hb); have n1_ := Azq.mk (Kd.V_lower (Kd.V_mono (ok' := fun k_ => (w.heap.size ≤ k_)) ho0 (fun k_ hk_ => Or.elim hk_ (fun hs_ => ((HO_5.out).1 k_ hs_.symm)) (fun hn_ => (Nat.le_trans (wzq (by repeat (first | (with_reducible first | exact HB.out | apply waq | apply wdq | apply wrq) | exact HB.out))) hn_)))) (wzq (by repeat (first | (with_reducible first | exact HB.out | apply waq | apply wdq | apply wrq) | exact HB.out)))); have n2_ := Azq.mk (wtq (by repeat (first | (with_reducible first | exact HB.out | apply waq | apply wdq | apply wrq) | exact HB.out)) hb); clear HO_5; clear HB; have HO_5 := n0_; have HO393 := n1_; have HB := n2_; clear n0_ n1_ n2_; (try clear hb); (try clear hb2); (try clear hk); (try clear hi); (try clear ho0)))
       go_ret
       exact ⟨_, by first | rfl | (simp [errW_none, errW_some] <;> rfl) | (simp only [← hji4]; first | rfl | (simp [errW_none, errW_some] <;> rfl)) | (simp [*, errW_none, errW_some] <;> rfl), by (with_reducible repeat (first | apply Kd.V_alloc | apply Kd.V_drewN | apply Kd.V_drew)); exact HO393.out, by repeat (first | (with_reducible first | exact HB.out | apply waq | apply wdq | apply wrq) | exact HB.out)⟩
   ·rw [if_neg c6] at H
    exact absurd H (by simp)
  ·rw [if_neg c5] at H
   exact absurd H (by simp)
end Go.Proofs.YtjggbalhpflbbaaGreat.PW
end
section
namespace Go.Proofs.YtjggbalhpflbbaaGreat.PW
open Go.RowKit Go.Proofs.YtjggbalhpflbbaaGreatW.PrintWords Go.Proofs.YtjggbalhpflbbaaGreatW.PrintLast Go.Proofs.YtjggbalhpflbbaaGreatW.PrintMore
attribute [local go_sem] max2_int min2_int max_two min_two max_three min_three max_four min_four   -- for this text's walks alone
set_option linter.unusedVariables false
set_option linter.unusedSimpArgs false
def impl_magRight.l0 : Nat → List Int → Int → List Int → List Int → Int → Int → Option (List Int)
 | 0, _, _, _, _, _, _ => none
 | k + 1, x0, x1, x5, x22, x23, x24 => if x24 < x23 then (if 0 ≤ x24 then (if x24 < (x22.length : Int) then (if (wrap64 (x24 + 1)) < (x0.length : Int) then (if 0 ≤ (wrap64 (x24 + 1)) then (if 0 ≤ (Int.tmod x1 32) then (if x24 < (x5.length : Int) then (impl_magRight.l0 k x0 x1 (x5.set (x24 : Int).toNat ((shr .u64 (Go.bits .or .u64 (IntKind.u64.wrap (rd x22 x24)) (IntKind.u64.wrap ((IntKind.u64.wrap (rd x0 (wrap64 (x24 + 1)))) * 4294967296))) (Int.tmod x1 32)) % 4294967296)) x22 x23 (wrap64 (x24 + 1))) else (none)) else (none)) else (none)) else (if 0 ≤ (Int.tmod x1 32) then (if x24 < (x5.length : Int) then (impl_magRight.l0 k x0 x1 (x5.set (x24 : Int).toNat ((shr .u64 (IntKind.u64.wrap (rd x22 x24)) (Int.tmod x1 32)) % 4294967296)) x22 x23 (wrap64 (x24 + 1))) else (none)) else (none))) else (none)) else (none)) else ((impl_magTrim.f k x5).bind fun t412 => (some t412))
def impl_magRight.f (k : Nat) (l0 : List Int) (a1 : Int) : Option (List Int) := if (IntKind.u64.wrap ((l0.length : Int))) ≤ (IntKind.u64.wrap (Int.tdiv a1 32)) then (some ([] : List Int)) else (if 0 ≤ (IntKind.u64.wrap (Int.tdiv a1 32)) then (if (IntKind.u64.wrap (Int.tdiv a1 32)) ≤ (l0.length : Int) then (if 0 ≤ ((l0.drop ((IntKind.u64.wrap (Int.tdiv a1 32)) : Int).toNat).length : Int) then (if (((l0.drop ((IntKind.u64.wrap (Int.tdiv a1 32)) : Int).toNat).length : Int) : Int).toNat ≤ 70368744177664 then (impl_magRight.l0 k (l0.drop ((IntKind.u64.wrap (Int.tdiv a1 32)) : Int).toNat) a1 (List.replicate (((l0.drop ((IntKind.u64.wrap (Int.tdiv a1 32)) : Int).toNat).length : Int) : Int).toNat 0) (l0.drop ((IntKind.u64.wrap (Int.tdiv a1 32)) : Int).toNat) ((l0.drop ((IntKind.u64.wrap (Int.tdiv a1 32)) : Int).toNat).length : Int) 0) else (none)) else (none)) else (none)) else (none))
theorem impl_magRight.mono_l : ∀ k, (∀ y0 y1 y2 y3 y4 y5, LeO (impl_magRight.l0 k y0 y1 y2 y3 y4 y5) (impl_magRight.l0 (k + 1) y0 y1 y2 y3 y4 y5))
 | 0 => fun _ _ _ _ _ _ r h => by simp [impl_magRight.l0] at h
 | k + 1 => by
  have ih0 := impl_magRight.mono_l k
  ·intro y0 y1 y2 y3 y4 y5
   unfold impl_magRight.l0
   repeat' first
   | (with_reducible exact ih0 _ _ _ _ _ _)
   | (with_reducible exact impl_magTrim.mono _ _)
   | (with_reducible exact LeO.refl _)
   | (with_reducible exact LeO.none _)
   | (with_reducible refine LeO.ite ?_ ?_)
   | (with_reducible refine LeO.bind ?_ (fun _ => ?_))
   | exact ih0 _ _ _ _ _ _
   | exact impl_magTrim.mono _ _
   | exact LeO.none _
   | refine LeO.ite ?_ ?_
   | refine LeO.bind ?_ (fun _ => ?_)
theorem impl_magRight.mono : ∀ a0 a1 k, LeO (impl_magRight.f k a0 a1) (impl_magRight.f (k + 1) a0 a1) := by
 intro a0 a1 k
 have ih0 := impl_magRight.mono_l k
 unfold impl_magRight.f
 repeat' first
   | (with_reducible exact ih0 _ _ _ _ _ _)
   | (with_reducible exact impl_magTrim.mono _ _)
   | (with_reducible exact LeO.refl _)
   | (with_reducible exact LeO.none _)
   | (with_reducible refine LeO.ite ?_ ?_)
   | (with_reducible refine LeO.bind ?_ (fun _ => ?_))
   | exact ih0 _ _ _ _ _ _
   | exact impl_magTrim.mono _ _
   | exact LeO.none _
   | refine LeO.ite ?_ ?_
   | refine LeO.bind ?_ (fun _ => ?_)
set_option maxHeartbeats 8000000 in
set_option maxRecDepth 100000 in
theorem impl_magRight.calls (k : Nat) (A0 : Option Addr) (c0 : Nat) (l0 : List Int) (a1 : Int) (r : List Int) (w : World) (hr0 : Kd.C (Kd.int .u32) w A0 l0.length l0) (hc0 : l0.length ≤ c0) (h : impl_magRight.f k l0 a1 = some r) :
  Calls Tryz.prog 100 #[.slice A0 l0.length c0, .int .u64 a1] w fun e w' => ∃ v0_ : Value, e = .returned (v0_) ∧ Kd.V (Kd.int .u32) 103 w' w.heap.size (fun k_ => (w.heap.size ≤ k_)) v0_ r ∧ Below w.heap.size w w' := by
 have HR0 := Azq.mk hr0
 have HC0 := Azq.mk hc0
 clear hr0 hc0
 have HB := Azq.mk (Below.refl w.heap.size w)
 have H : (if (IntKind.u64.wrap ((l0.length : Int))) ≤ (IntKind.u64.wrap (Int.tdiv a1 32)) then (some ([] : List Int)) else (if 0 ≤ (IntKind.u64.wrap (Int.tdiv a1 32)) then (if (IntKind.u64.wrap (Int.tdiv a1 32)) ≤ (l0.length : Int) then (if 0 ≤ ((l0.drop ((IntKind.u64.wrap (Int.tdiv a1 32)) : Int).toNat).length : Int) then (if (((l0.drop ((IntKind.u64.wrap (Int.tdiv a1 32)) : Int).toNat).length : Int) : Int).toNat ≤ 70368744177664 then (impl_magRight.l0 k (l0.drop ((IntKind.u64.wrap (Int.tdiv a1 32)) : Int).toNat) a1 (List.replicate (((l0.drop ((IntKind.u64.wrap (Int.tdiv a1 32)) : Int).toNat).length : Int) : Int).toNat 0) (l0.drop ((IntKind.u64.wrap (Int.tdiv a1 32)) : Int).toNat) ((l0.drop ((IntKind.u64.wrap (Int.tdiv a1 32)) : Int).toNat).length : Int) 0) else (none)) else (none)) else (none)) else (none))) = some r := h
 clear h
 by_cases c3 : (IntKind.u64.wrap ((l0.length : Int))) ≤ (IntKind.u64.wrap (Int.tdiv a1 32))
 ·rw [if_pos c3] at H
  have c3b0 : decide ((IntKind.u64.wrap ((l0.length : Int))) ≤ (IntKind.u64.wrap (Int.tdiv a1 32))) = true := decide_eq_true c3
  clear c3
  obtain rfl := Option.some.inj H
  go_enter Tryz.func100, Tryz.ntmps100
  go_wp2
  go_ret
  exact ⟨.slice none 0 0, by first | rfl | (simp [errW_none, errW_some] <;> rfl) | (simp [*, errW_none, errW_some] <;> rfl), Kd.V_nil _ _ _ _ _, by repeat (first | (with_reducible first | exact HB.out | apply waq | apply wdq | apply wrq) | exact HB.out)⟩
 ·rw [if_neg c3] at H
  have c3b0 : decide ((IntKind.u64.wrap ((l0.length : Int))) ≤ (IntKind.u64.wrap (Int.tdiv a1 32))) = false := decide_eq_false c3
  clear c3
  obtain ⟨ji4, hji4⟩ : ∃ j_ : Int, (IntKind.u64.wrap (Int.tdiv a1 32)) = j_ := ⟨_, rfl⟩
  replace H : (if 0 ≤ (ji4) then (if (ji4) ≤ (l0.length : Int) then (if 0 ≤ ((l0.drop ((ji4) : Int).toNat).length : Int) then (if (((l0.drop ((ji4) : Int).toNat).length : Int) : Int).toNat ≤ 70368744177664 then (impl_magRight.l0 k (l0.drop ((ji4) : Int).toNat) a1 (List.replicate (((l0.drop ((ji4) : Int).toNat).length : Int) : Int).toNat 0) (l0.drop ((ji4) : Int).toNat) ((l0.drop ((ji4) : Int).toNat).length : Int) 0) else (none)) else (none)) else (none)) else (none)) = some r := by first | (rw [hji4] at H; exact H) | (simp only [hji4] at H ⊢; exact H)
  (try rw [hji4] at c3b0)
  by_cases c5 : 0 ≤ (ji4)
  ·rw [if_pos c5] at H
   have c5b0 := eq_true c5
   have c5b1 : decide (0 ≤ (ji4)) = true := decide_eq_true c5
   clear c5
   by_cases c6 : (ji4) ≤ (l0.length : Int)
   ·rw [if_pos c6] at H
    have c6b0 := eq_true c6
    have c6b1 : decide ((ji4) ≤ (l0.length : Int)) = true := decide_eq_true c6
    clear c6
    by_cases c7 : 0 ≤ ((l0.drop ((ji4) : Int).toNat).length : Int)
    ·rw [if_pos c7] at H
     have c7b0 := eq_true c7
     have c7b1 : decide (0 ≤ ((l0.drop ((ji4) : Int).toNat).length : Int)) = true := decide_eq_true c7
     clear c7
     by_cases c8 : (((l0.drop ((ji4) : Int).toNat).length : Int) : Int).toNat ≤ 70368744177664
     ·rw [if_pos c8] at H
      have c8b0 := eq_true c8
      have c8b1 : decide ((((l0.drop ((ji4) : Int).toNat).length : Int) : Int).toNat ≤ 70368744177664) = true := decide_eq_true c8
      clear c8
      obtain ⟨y405, hy405⟩ : ∃ y_ : List Int, y_ = (List.replicate (((l0.drop ((ji4) : Int).toNat).length : Int) : Int).toNat 0) := ⟨_, rfl⟩
      replace H : (impl_magRight.l0 k (l0.drop ((ji4) : Int).toNat) a1 y405 (l0.drop ((ji4) : Int).toNat) ((l0.drop ((ji4) : Int).toNat).length : Int) 0) = some r := by first | (rw [hy405]; with_reducible exact H) | (have H2_ := (Option.bind_some _ _).symm.trans H; rw [hy405]; with_reducible exact H2_) | (have H2_ := (Option.bind_some _ _).symm.trans H; with_reducible exact H2_) | with_reducible exact H | (rw [hy405]; exact H) | exact H
      have Ny405 := Azq.mk hy405
      clear hy405
      have H' := Azq.mk H
      clear H
      obtain ⟨i09, hi09, _, hsz9, _⟩ := info_parts info103
      obtain ⟨A9, hcut9, hA9, hC9⟩ := print_drop_of (P := Tryz.prog) (Value.int .u32) 0 92 103 .u64 Tryz.underlying92 hi09 hsz9 A0 c0 l0 (ji4) (of_decide_eq_true (by first | (with_reducible assumption) | assumption)) (of_decide_eq_true (by first | (with_reducible assumption) | assumption)) HC0.out
      have HR404 := Azq.mk (Kd.C_of_reads (h1 := fun _ => rfl) (hA9 _ (Kd.reads_of_C HR0.out)))
      have HC404 := Azq.mk hC9
      clear hA9 hC9 hi09 hsz9
      generalize hm0_ : l0.drop ((ji4) : Int).toNat = m0_ at *
      have Hm0_ := Azq.mk hm0_
      clear hm0_
      go_enter Tryz.func100, Tryz.ntmps100
      go_wp2_with (first | ((with_reducible refine gate_dst (N := 21) rfl ?_); refine Kd.R_make (Kd.int .u32) _ 103 rfl (N := 21) rfl 92 _ _ rfl (m0_.length : Int) rfl rfl Tryz.underlying92 (.int .u32 0) 4 info103 rfl (by decide) (by omega) 0 (ok := fun _ => True) (okp := fun _ => True) rfl (fun _ hk => hk) trivial (of_decide_eq_true (by first | (with_reducible assumption) | assumption)) (Nat.le_trans (Nat.mul_le_mul_right _ (of_decide_eq_true (by first | (with_reducible assumption) | assumption) : (m0_.length : Int).toNat ≤ 70368744177664)) (by omega)) (Below.refl _ _) (Nat.le_refl _) ?_; intro v406 w10 ho11 hb hg_ hnew_; clear hg_ hnew_; (first | rw [← Ny405.out] at ho11 | (simp only [Int.reduceToNat] at ho11; rw [← Ny405.out] at ho11)); have n0_ := Azq.mk (Kd.R_lower (Kd.R_newM (M := fun k_ => (w.heap.size ≤ k_)) ho11 (wzq (by repeat (first | (with_reducible first | exact HB.out | apply waq | apply wdq | apply wrq) | exact HB.out))) (fun k_ h_ => h_)) (wzq (by repeat (first | (with_reducible first | exact HB.out | apply waq | apply wdq | apply wrq) | exact HB.out)))); have n1_ := Azq.mk (wtq (by repeat (first | (with_reducible first | exact HB.out | apply waq | apply wdq | apply wrq) | exact HB.out)) hb); clear HB; have HO407 := n0_; have HB := n1_; clear n0_ n1_; clear hb ho11))
      go_loopg [24] k (fun kq v24 w' => ∃ (x5_1 : List Int) (x24_1 : Int), v24 = .int .i64 x24_1 ∧ Azq (impl_magRight.l0 kq m0_ a1 x5_1 m0_ (m0_.length : Int) x24_1 = some r) ∧ Azq (kq ≤ k) ∧ Azq (Kd.R (Kd.int .u32) 103 w' w.heap.size (fun k_ => (w.heap.size ≤ k_)) v406 x5_1) ∧ Azq (Below w.heap.size w w'))
      case atStart => exact ⟨(y405), (0), (by first | rfl | (simp; done) | (simp [*]; done)), H', ⟨Nat.le_refl _⟩, ⟨by (with_reducible repeat (first | apply Kd.R_alloc | apply Kd.R_drewN | apply Kd.R_drew)); exact Kd.R_mono HO407.out (fun _ hk => hk.1)⟩, ⟨by repeat (first | (with_reducible first | exact HB.out | apply waq | apply wdq | apply wrq) | exact HB.out)⟩⟩
      case round =>
       clear H'
       try clear c1
       try clear p2
       try clear c3
       try clear c3b0
       try clear c5
       try clear c5b0
       try clear c5b1
       try clear c6
       try clear c6b0
       try clear c6b1
       try clear c7
       try clear c7b0
       try clear c7b1
       try clear c8
       try clear c8b0
       try clear c8b1
       try clear c10
       obtain ⟨x5_1, x24_1, rfl, HA, HK1, HO_5, HB⟩ := hrel
       cases gk with
       | zero => exact absurd HA.out (by simp [impl_magRight.l0])
       | succ k1 =>
        have H := HA.out
        clear HA
        simp only [impl_magRight.l0] at H
        by_cases c12 : x24_1 < (m0_.length : Int)
        ·rw [if_pos c12] at H
         have c12b0 : decide (x24_1 < (m0_.length : Int)) = true := decide_eq_true c12
         clear c12
         by_cases c13 : 0 ≤ x24_1
         ·rw [if_pos c13] at H
          have c13b0 : decide (0 ≤ x24_1) = true := decide_eq_true c13
          clear c13
          by_cases c14 : x24_1 < (m0_.length : Int)
          ·rw [if_pos c14] at H
           have c14b0 : decide (x24_1 < (m0_.length : Int)) = true := decide_eq_true c14
           clear c14
           by_cases c15 : (wrap64 (x24_1 + 1)) < (m0_.length : Int)
           ·rw [if_pos c15] at H
            have c15b0 : decide ((wrap64 (x24_1 + 1)) < (m0_.length : Int)) = true := decide_eq_true c15
            clear c15
            obtain ⟨ji16, hji16⟩ : ∃ j_ : Int, (wrap64 (x24_1 + 1)) = j_ := ⟨_, rfl⟩
            replace H : (if 0 ≤ (ji16) then (if 0 ≤ (Int.tmod a1 32) then (if x24_1 < (x5_1.length : Int) then (impl_magRight.l0 k1 m0_ a1 (x5_1.set (x24_1 : Int).toNat ((shr .u64 (Go.bits .or .u64 (IntKind.u64.wrap (rd m0_ x24_1)) (IntKind.u64.wrap ((IntKind.u64.wrap (rd m0_ (ji16))) * 4294967296))) (Int.tmod a1 32)) % 4294967296)) m0_ (m0_.length : Int) ji16) else (none)) else (none)) else (none)) = some r := by first | (rw [hji16] at H; exact H) | (simp only [hji16] at H ⊢; exact H)
            (try rw [hji16] at c15b0)
            have hji16w : (IntKind.i64.wrap (x24_1 + 1)) = ji16 := (i64_w _).trans hji16
            by_cases c17 : 0 ≤ (ji16)
            ·rw [if_pos c17] at H
             have c17b0 : decide (0 ≤ (ji16)) = true := decide_eq_true c17
             clear c17
             obtain ⟨ji18, hji18⟩ : ∃ j_ : Int, (Int.tmod a1 32) = j_ := ⟨_, rfl⟩
             replace H : (if 0 ≤ (ji18) then (if x24_1 < (x5_1.length : Int) then (impl_magRight.l0 k1 m0_ a1 (x5_1.set (x24_1 : Int).toNat ((shr .u64 (Go.bits .or .u64 (IntKind.u64.wrap (rd m0_ x24_1)) (IntKind.u64.wrap ((IntKind.u64.wrap (rd m0_ (ji16))) * 4294967296))) (ji18)) % 4294967296)) m0_ (m0_.length : Int) ji16) else (none)) else (none)) = some r := by first | (rw [hji18] at H; exact H) | (simp only [hji18] at H ⊢; exact H)
             by_cases c19 : 0 ≤ (ji18)
             ·rw [if_pos c19] at H
              have c19b0 := eq_true c19
              have c19b1 : decide (0 ≤ (ji18)) = true := decide_eq_true c19
              clear c19
              obtain ⟨ji20, hji20⟩ : ∃ j_ : Int, (shr .u64 (Go.bits .or .u64 (IntKind.u64.wrap (rd m0_ x24_1)) (IntKind.u64.wrap ((IntKind.u64.wrap (rd m0_ (ji16))) * 4294967296))) (ji18)) = j_ := ⟨_, rfl⟩
              replace H : (if x24_1 < (x5_1.length : Int) then (impl_magRight.l0 k1 m0_ a1 (x5_1.set (x24_1 : Int).toNat ((ji20) % 4294967296)) m0_ (m0_.length : Int) ji16) else (none)) = some r := by first | (rw [hji20] at H; exact H) | (simp only [hji20] at H ⊢; exact H)
              have hji20_ : ((Go.bits .or .u64 (IntKind.u64.wrap (rd m0_ x24_1)) (IntKind.u64.wrap ((IntKind.u64.wrap (rd m0_ (ji16))) * 4294967296))) / 2 ^ min (ji18).toNat 64) = ji20 := hji20
              have hji20z : (ji18) ≤ 64 → ((Go.bits .or .u64 (IntKind.u64.wrap (rd m0_ x24_1)) (IntKind.u64.wrap ((IntKind.u64.wrap (rd m0_ (ji16))) * 4294967296))) / 2 ^ (ji18).toNat) = ji20 := shr_small hji20
              by_cases c21 : x24_1 < (x5_1.length : Int)
              ·rw [if_pos c21] at H
               have c21b0 : decide (x24_1 < (x5_1.length : Int)) = true := decide_eq_true c21
               clear c21
               obtain ⟨y410, hy410⟩ : ∃ y_ : List Int, y_ = (x5_1.set (x24_1 : Int).toNat ((ji20) % 4294967296)) := ⟨_, rfl⟩
               replace H : (impl_magRight.l0 k1 m0_ a1 y410 m0_ (m0_.length : Int) ji16) = some r := by first | (rw [hy410]; with_reducible exact H) | (have H2_ := (Option.bind_some _ _).symm.trans H; rw [hy410]; with_reducible exact H2_) | (have H2_ := (Option.bind_some _ _).symm.trans H; with_reducible exact H2_) | with_reducible exact H | (rw [hy410]; exact H) | exact H
               have Ny410 := Azq.mk hy410
               clear hy410
               have H' := Azq.mk H
               clear H
               have p408 : 0 ≤ (x24_1 : Int) := of_decide_eq_true (by first | (with_reducible assumption) | assumption)
               have q408 : x24_1 < (m0_.length : Int) := of_decide_eq_true (by first | (with_reducible assumption) | assumption)
               obtain ⟨ad408, e408, hx408_0⟩ := Kd.at_int HR404.out x24_1 p408 q408
               cases e408
               replace hx408_0 := (HB.out.cell (World.block_lt_of_cell? w _ hx408_0)).trans hx408_0
               replace p408 := eq_true p408
               replace q408 := eq_true q408
               have p409 : 0 ≤ ((ji16) : Int) := of_decide_eq_true (by first | (with_reducible assumption) | assumption)
               have q409 : (ji16) < (m0_.length : Int) := of_decide_eq_true (by first | (with_reducible assumption) | assumption)
               obtain ⟨ad409, e409, hx409_0⟩ := Kd.at_int HR404.out (ji16) p409 q409
               obtain rfl : ad408 = ad409 := (by injection e409)
               replace hx409_0 := (HB.out.cell (World.block_lt_of_cell? w _ hx409_0)).trans hx409_0
               replace p409 := eq_true p409
               replace q409 := eq_true q409
               have p22 : 0 ≤ (x24_1 : Int) := of_decide_eq_true (by first | (with_reducible assumption) | assumption)
               have q22 : (x24_1 : Int) < ((x5_1.length : Int) : Int) := of_decide_eq_true (by first | (with_reducible assumption) | assumption)
               obtain ⟨go22, co22, eo22, gb22, gl22, cl22, HG22⟩ := Kd.R_form HO_5.out (by omega)
               (first | cases eo22 | (injection eo22 with ea_ en_ ec_; (first | subst ea_ | (injection ea_ with ea_; subst ea_)); subst ec_; clear en_))
               have GB22 := Azq.mk gb22
               have GG22 := Azq.mk HG22
               clear gb22 gl22 HG22
               obtain ⟨hx22_0, hf22_0⟩ := Kd.R_celln 0 HO_5.out (x24_1 : Int) p22 q22
               replace p22 := eq_true p22
               replace q22 := eq_true q22
               have HP23 := Kd.R_putg HO_5.out (x24_1 : Int) ((ji20) % 4294967296)
               go_wp2_with (first | ((with_reducible refine gate_store (t := 103) (p := 52) rfl ?_); refine store_event (t := 103) (p := 52) (v := ?vo_w24) (w1 := (wr.setCell ⟨go22, (x24_1 : Int).toNat, none⟩ (.int .u32 ((ji20) % 4294967296)))) ?hg ?ho ?hn ?hr ?_; (case ho => rfl); (case hg => rfl); (case hn => rfl); (case hr => first | (go_simp; done) | (go_simp; rfl)); intro w24 hw; have hg : wr.grownBy w24 (some go22) := (by rw [hw]; exact HP23.2); have hp_ : Kd.R (Kd.int .u32) 103 w24 w.heap.size (fun k_ => (w.heap.size ≤ k_)) (.slice (some ⟨go22, 0, none⟩) x5_1.length co22) y410 := (by rw [hw, Ny410.out]; exact HP23.1); clear HP23; have n0_ := Azq.mk (hp_); have n1_ := Azq.mk ((by rw [hw]; exact wsq (HB.out) GB22.out : Below w.heap.size w w24)); clear HO_5; clear HB; have HO_5 := n0_; have HB := n1_; clear n0_ n1_; clear hg hw hp_))
               go_roundg k1
               case measure => have := HK1.out; omega
               case rel => exact ⟨(y410), (ji16), (by first | rfl | (simp; done) | (simp only [← hji16] <;> (first | rfl | simp)) | (simp [*]; done)), H', ⟨by have := HK1.out; omega⟩, ⟨by (with_reducible repeat (first | apply Kd.R_alloc | apply Kd.R_drewN | apply Kd.R_drew)); exact HO_5.out⟩, ⟨by repeat (first | (with_reducible first | exact HB.out | apply waq | apply wdq | apply wrq) | exact HB.out)⟩⟩
              ·rw [if_neg c21] at H
               exact absurd H (by simp)
             ·rw [if_neg c19] at H
              exact absurd H (by simp)
            ·rw [if_neg c17] at H
             exact absurd H (by simp)
           ·rw [if_neg c15] at H
            have c15b0 : decide ((wrap64 (x24_1 + 1)) < (m0_.length : Int)) = false := decide_eq_false c15
            clear c15
            obtain ⟨ji25, hji25⟩ : ∃ j_ : Int, (Int.tmod a1 32) = j_ := ⟨_, rfl⟩
            replace H : (if 0 ≤ (ji25) then (if x24_1 < (x5_1.length : Int) then (impl_magRight.l0 k1 m0_ a1 (x5_1.set (x24_1 : Int).toNat ((shr .u64 (IntKind.u64.wrap (rd m0_ x24_1)) (ji25)) % 4294967296)) m0_ (m0_.length : Int) (wrap64 (x24_1 + 1))) else (none)) else (none)) = some r := by first | (rw [hji25] at H; exact H) | (simp only [hji25] at H ⊢; exact H)
            by_cases c26 : 0 ≤ (ji25)
            ·rw [if_pos c26] at H
             have c26b0 := eq_true c26
             have c26b1 : decide (0 ≤ (ji25)) = true := decide_eq_true c26
             clear c26
             obtain ⟨ji27, hji27⟩ : ∃ j_ : Int, (shr .u64 (IntKind.u64.wrap (rd m0_ x24_1)) (ji25)) = j_ := ⟨_, rfl⟩
             replace H : (if x24_1 < (x5_1.length : Int) then (impl_magRight.l0 k1 m0_ a1 (x5_1.set (x24_1 : Int).toNat ((ji27) % 4294967296)) m0_ (m0_.length : Int) (wrap64 (x24_1 + 1))) else (none)) = some r := by first | (rw [hji27] at H; exact H) | (simp only [hji27] at H ⊢; exact H)
             have hji27_ : ((IntKind.u64.wrap (rd m0_ x24_1)) / 2 ^ min (ji25).toNat 64) = ji27 := hji27
             have hji27z : (ji25) ≤ 64 → ((IntKind.u64.wrap (rd m0_ x24_1)) / 2 ^ (ji25).toNat) = ji27 := shr_small hji27
             by_cases c28 : x24_1 < (x5_1.length : Int)
             ·rw [if_pos c28] at H
              have c28b0 : decide (x24_1 < (x5_1.length : Int)) = true := decide_eq_true c28
              clear c28
              obtain ⟨y411, hy411⟩ : ∃ y_ : List Int, y_ = (x5_1.set (x24_1 : Int).toNat ((ji27) % 4294967296)) := ⟨_, rfl⟩
              replace H : (impl_magRight.l0 k1 m0_ a1 y411 m0_ (m0_.length : Int) (wrap64 (x24_1 + 1))) = some r := by first | (rw [hy411]; with_reducible exact H) | (have H2_ := (Option.bind_some _ _).symm.trans H; rw [hy411]; with_reducible exact H2_) | (have H2_ := (Option.bind_some _ _).symm.trans H; with_reducible exact H2_) | with_reducible exact H | (rw [hy411]; exact H) | exact H
              have Ny411 := Azq.mk hy411
              clear hy411
              have H' := Azq.mk H
              clear H
              have p408 : 0 ≤ (x24_1 : Int) := of_decide_eq_true (by first | (with_reducible assumption) | assumption)
              have q408 : x24_1 < (m0_.length : Int) := of_decide_eq_true (by first | (with_reducible assumption) | assumption)
              obtain ⟨ad408, e408, hx408_0⟩ := Kd.at_int HR404.out x24_1 p408 q408
              cases e408
              replace hx408_0 := (HB.out.cell (World.block_lt_of_cell? w _ hx408_0)).trans hx408_0
              replace p408 := eq_true p408
              replace q408 := eq_true q408
              have p29 : 0 ≤ (x24_1 : Int) := of_decide_eq_true (by first | (with_reducible assumption) | assumption)
              have q29 : (x24_1 : Int) < ((x5_1.length : Int) : Int) := of_decide_eq_true (by first | (with_reducible assumption) | assumption)
              obtain ⟨go29, co29, eo29, gb29, gl29, cl29, HG29⟩ := Kd.R_form HO_5.out (by omega)
              (first | cases eo29 | (injection eo29 with ea_ en_ ec_; (first | subst ea_ | (injection ea_ with ea_; subst ea_)); subst ec_; clear en_))
              have GB29 := Azq.mk gb29
              have GG29 := Azq.mk HG29
              clear gb29 gl29 HG29
              obtain ⟨hx29_0, hf29_0⟩ := Kd.R_celln 0 HO_5.out (x24_1 : Int) p29 q29
              replace p29 := eq_true p29
              replace q29 := eq_true q29
              have HP30 := Kd.R_putg HO_5.out (x24_1 : Int) ((ji27) % 4294967296)
              go_wp2_with (first | ((with_reducible refine gate_store (t := 103) (p := 52) rfl ?_); refine store_event (t := 103) (p := 52) (v := ?vo_w31) (w1 := (wr.setCell ⟨go29, (x24_1 : Int).toNat, none⟩ (.int .u32 ((ji27) % 4294967296)))) ?hg ?ho ?hn ?hr ?_; (case ho => rfl); (case hg => rfl); (case hn => rfl); (case hr => first | (go_simp; done) | (go_simp; rfl)); intro w31 hw; have hg : wr.grownBy w31 (some go29) := (by rw [hw]; exact HP30.2); have hp_ : Kd.R (Kd.int .u32) 103 w31 w.heap.size (fun k_ => (w.heap.size ≤ k_)) (.slice (some ⟨go29, 0, none⟩) x5_1.length co29) y411 := (by rw [hw, Ny411.out]; exact HP30.1); clear HP30; have n0_ := Azq.mk (hp_); have n1_ := Azq.mk ((by rw [hw]; exact wsq (HB.out) GB29.out : Below w.heap.size w w31)); clear HO_5; clear HB; have HO_5 := n0_; have HB := n1_; clear n0_ n1_; clear hg hw hp_))
              go_roundg k1
              case measure => have := HK1.out; omega
              case rel => exact ⟨(y411), (wrap64 (x24_1 + 1)), (by first | rfl | (simp; done) | (simp [*]; done)), H', ⟨by have := HK1.out; omega⟩, ⟨by (with_reducible repeat (first | apply Kd.R_alloc | apply Kd.R_drewN | apply Kd.R_drew)); exact HO_5.out⟩, ⟨by repeat (first | (with_reducible first | exact HB.out | apply waq | apply wdq | apply wrq) | exact HB.out)⟩⟩
             ·rw [if_neg c28] at H
              exact absurd H (by simp)
            ·rw [if_neg c26] at H
             exact absurd H (by simp)
          ·rw [if_neg c14] at H
           exact absurd H (by simp)
         ·rw [if_neg c13] at H
          exact absurd H (by simp)
        ·rw [if_neg c12] at H
         have c12b0 : decide (x24_1 < (m0_.length : Int)) = false := decide_eq_false c12
         clear c12
         replace H := Option.bind_eq_some_iff.mp H
         obtain ⟨t412, A320, H⟩ := H
         replace H : (some t412) = some r := H
         have A32 := Azq.mk A320
         clear A320
         obtain rfl := Option.some.inj H
         obtain ⟨Ao33, co33, eo33⟩ := Kd.R_slice HO_5.out
         subst eo33
         go_wp2_with (first | ((with_reducible refine gate_callee (f := 109) rfl ?_); refine goesL_ (some 55) rfl rfl Tryz.func109 (by kernel_rfl) rfl #[.slice Ao33 x5_1.length co33] rfl (by (try simp only [List.map_toArray, List.map_cons, List.map_nil]); first | done | rfl | (simp only [List.length_drop, List.length_take]; rfl)) ?_; (with_reducible refine (impl_magTrim.calls k1 (fun k_ => some k_ = (.slice Ao33 x5_1.length co33 : Value).ownBlock) _ _ x5_1 t412 _ ?side1 A32.out).mono ?_); (case side1 => exact Kd.R_V (Kd.R_tight rfl (HO_5.out))); rintro e w34 ⟨v413, rfl, ho0, hb⟩; refine ⟨_, rfl, ?_⟩; have n0_ := Azq.mk (Kd.R_below (by (with_reducible repeat (first | apply Kd.R_alloc | apply Kd.R_drewN | apply Kd.R_drew)); exact HO_5.out) hb); have n1_ := Azq.mk (Kd.V_lower (Kd.V_mono (ok' := fun k_ => (w.heap.size ≤ k_)) ho0 (fun k_ hk_ => Or.elim hk_ (fun hs_ => ((HO_5.out).1 k_ hs_.symm)) (fun hn_ => (Nat.le_trans (wzq (by repeat (first | (with_reducible first | exact HB.out | apply waq | apply wdq | apply wrq) | exact HB.out))) hn_)))) (wzq (by repeat (first | (with_reducible first | exact HB.out | apply waq | apply wdq | apply wrq) | exact HB.out)))); have n2_ := Azq.mk (wtq (by repeat (first | (with_reducible first | exact HB.out | apply waq | apply wdq | apply wrq) | exact HB.out)) hb); clear HO_5; clear HB; have HO_5 := n0_; have HO414 := n1_; have HB := n2_; clear n0_ n1_ n2_; (try clear hb); (try clear hb2); (try clear hk); (try clear hi); (try clear ho0)))
         go_ret
         exact ⟨_, by first | rfl | (simp [errW_none, errW_some] <;> rfl) | (simp only [← hji4]; first | rfl | (simp [errW_none, errW_some] <;> rfl)) | (simp [*, errW_none, errW_some] <;> rfl), by (with_reducible repeat (first | apply Kd.V_alloc | apply Kd.V_drewN | apply Kd.V_drew)); exact HO414.out, by repeat (first | (with_reducible first | exact HB.out | apply waq | apply wdq | apply wrq) | exact HB.out)⟩
     ·rw [if_neg c8] at H
      exact absurd H (by simp)
    ·rw [if_neg c7] at H
     exact absurd H (by simp)
   ·rw [if_neg c6] at H
    exact absurd H (by simp)
  ·rw [if_neg c5] at H
   exact absurd H (by simp)
end Go.Proofs.YtjggbalhpflbbaaGreat.PW
end
section
namespace Go.Proofs.YtjggbalhpflbbaaGreat.Pn
open Go.RowKit Go.Proofs.YtjggbalhpflbbaaGreatW.PrintWords Go.Proofs.YtjggbalhpflbbaaGreatW.PrintMore Go.Proofs.YtjggbalhpflbbaaGreat.PW Go.Proofs.YtjggbalhpflbbaaGreat.Pc Dg
set_option linter.unusedVariables false
set_option linter.unusedSimpArgs false
theorem u64_id {n : Int} (h0 : 0 ≤ n) (h1 : n < 18446744073709551616) : IntKind.u64.wrap n = n := by rw [IntKind.wrap_u64]; omega
theorem trimD {ys : List Int} {n : Nat} (hd : Dig 4294967296 ys) (hl : ys.length ≤ 1099511627776) (hv : val 4294967296 ys = n) : Ev (fun k => (impl_magTrim.f k ys).bind fun t => some t) (D n) := by
  have := Pm.trim _ ys rfl hd hl
  rw [hv, Int.toNat_natCast] at this
  exact Ev.bind (f := fun _ t => some t) this (ev_of fun _ => rfl)
theorem add_loop (a b : List Int) (ha : Dig 4294967296 a) (hb : Dig 4294967296 b) (hab : b.length ≤ a.length) (hm : a.length ≤ 1073741824) (s : Nat) (hs : val 4294967296 a + val 4294967296 b = s) (d : Nat) :
    ∀ (i : Nat) (ys : List Int) (c : Int), i + d = a.length → ys.length = a.length + 1 → Dig 4294967296 ys → 0 ≤ c → c ≤ 1 →
      val 4294967296 (ys.take i) + 4294967296 ^ i * c = val 4294967296 (a.take i) + val 4294967296 (b.take i) →
      Ev (fun k => impl_magAdd.l0 k a b ys c a (a.length : Int) (i : Int)) (D s) := by
  induction d with
  | zero =>
    intro i ys c hd hy hdy hc0 hc1 hinv
    have hi : i = a.length := by omega
    subst hi
    have hdig : Dig 4294967296 (ys.set a.length c) := hdy.set _ hc0 (by omega)
    have hval : val 4294967296 (ys.set a.length c) = s := by
      have h1 := val_set_take (B := 4294967296) (l := ys) (i := a.length) (by omega) c
      rw [List.take_of_length_le (by simp <;> omega)] at h1
      rw [h1]
      rw [List.take_length, val_take_ge hab, hs] at hinv
      exact hinv
    refine Ev.step (f := fun k => (impl_magTrim.f k (ys.set a.length c)).bind fun t => some t) (fun k => ?_) (trimD hdig (by simp <;> omega) hval)
    simp only [impl_magAdd.l0]
    rw [if_neg (by omega), if_pos (by omega), if_pos (by omega), Int.toNat_natCast, show c % 4294967296 = c by omega]
  | succ d ih =>
    intro i ys c hd hy hdy hc0 hc1 hinv
    have hai := ha.all0 (by decide) i
    have hbi := hb.all0 (by decide) i
    obtain ⟨x, hx⟩ : ∃ x, x = a.getD i 0 + b.getD i 0 + c := ⟨_, rfl⟩
    have hx0 : 0 ≤ x := by omega
    have hx1 : x ≤ 8589934591 := by omega
    have hstep := Ev.step (g := fun k => impl_magAdd.l0 k a b ys c a (a.length : Int) (i : Int)) (f := fun k => impl_magAdd.l0 k a b (ys.set i (x % 4294967296)) (x / 4294967296) a (a.length : Int) ((i + 1 : Nat) : Int)) (fun k => ?_)
      (ih (i + 1) _ (x / 4294967296) (by omega) (by simpa using hy) (hdy.set _ (by omega) (by omega)) (by omega) (by omega) ?_)
    · exact hstep
    · simp only [impl_magAdd.l0]
      rw [if_pos (by omega), if_pos (by omega), if_pos (by omega), rdN, rdN, wrapZ _ (by omega) (by omega)]
      by_cases hib : i < b.length
      · rw [if_pos (by omega), if_pos (by omega), u64_id (n := a.getD i 0) (by omega) (by omega), u64_id (n := c + _) (by omega) (by omega), u64_id (n := b.getD i 0) (by omega) (by omega), u64_id (by omega) (by omega)]
        rw [show c + a.getD i 0 + b.getD i 0 = x by omega]
        rfl
      · have hb0 : b.getD i 0 = 0 := getD_ge (by omega)
        rw [if_neg (by omega), if_pos (by omega), u64_id (n := a.getD i 0) (by omega) (by omega), u64_id (n := c + _) (by omega) (by omega)]
        rw [show c + a.getD i 0 = x by omega]
        rfl
    · rw [val_set_take (by omega), val_take_succ' a i, val_take_succ' b i]
      have := add_step (a := a.getD i 0) (b := b.getD i 0) (c := c) (x := x % 4294967296) (c' := x / 4294967296) (p := 4294967296) hinv (by omega)
      rw [Int.pow_succ]
      exact this
theorem add (a b : Nat) (hlen : (D b).length ≤ (D a).length) (ha : bl a ≤ 1073741823) : Ev (fun k => impl_magAdd.f k (D a) (D b)) (D (a + b)) := by
  have h1 := D_len a
  unfold impl_magAdd.f
  rw [wrapZ _ (by omega) (by omega)]
  refine ifp (by omega) (ifp (by omega) ?_)
  have := add_loop (D a) (D b) (D_dig a) (D_dig b) hlen (by omega) (a + b) (by rw [D_val, D_val]; omega) (D a).length 0 (List.replicate (((D a).length : Int) + 1).toNat 0) 0 (by omega) (by simp <;> omega) (dig_replicate (by decide) _) (by omega) (by omega) (by simp [val])
  exact this
theorem sub_loop (a b : List Int) (ha : Dig 4294967296 a) (hb : Dig 4294967296 b) (hab : b.length ≤ a.length) (hm : a.length ≤ 1073741824) (s : Nat) (hs : val 4294967296 a - val 4294967296 b = s) (d : Nat) :
    ∀ (i : Nat) (ys : List Int) (c : Int), i + d = a.length → ys.length = a.length → Dig 4294967296 ys → 0 ≤ c → c ≤ 1 →
      val 4294967296 (ys.take i) - 4294967296 ^ i * c = val 4294967296 (a.take i) - val 4294967296 (b.take i) →
      Ev (fun k => impl_magSub.l0 k b ys c a (a.length : Int) (i : Int)) (D s) := by
  induction d with
  | zero =>
    intro i ys c hd hy hdy hc0 hc1 hinv
    have hi : i = a.length := by omega
    subst hi
    rw [List.take_length, val_take_ge hab, val_take_ge (by omega), hs] at hinv
    have hlt := val_lt (by decide) hdy
    rw [hy] at hlt
    have hval : val 4294967296 ys = s := by
      have hc : c = 0 ∨ c = 1 := by omega
      rcases hc with rfl | rfl
      · omega
      · exfalso
        rw [Int.mul_one] at hinv
        have : ((4294967296 : Nat) : Int) ^ a.length = (4294967296 : Int) ^ a.length := rfl
        omega
    refine Ev.step (f := fun k => (impl_magTrim.f k ys).bind fun t => some t) (fun k => ?_) (trimD hdy (by omega) hval)
    simp only [impl_magSub.l0]
    rw [if_neg (by omega)]
  | succ d ih =>
    intro i ys c hd hy hdy hc0 hc1 hinv
    have hai := ha.all0 (by decide) i
    have hbi := hb.all0 (by decide) i
    obtain ⟨x, hx⟩ : ∃ x, x = IntKind.u64.wrap (a.getD i 0 - (b.getD i 0 + c)) := ⟨_, rfl⟩
    have hx' := hx
    rw [IntKind.wrap_u64] at hx'
    have hstep := Ev.step (g := fun k => impl_magSub.l0 k b ys c a (a.length : Int) (i : Int)) (f := fun k => impl_magSub.l0 k b (ys.set i (x % 4294967296)) (x / 9223372036854775808) a (a.length : Int) ((i + 1 : Nat) : Int)) (fun k => ?_)
      (ih (i + 1) _ (x / 9223372036854775808) (by omega) (by simpa using hy) (hdy.set _ (by omega) (by omega)) (by omega) (by omega) ?_)
    · exact hstep
    · simp only [impl_magSub.l0]
      rw [if_pos (by omega), if_pos (by omega), if_pos (by omega), rdN, rdN, wrapZ _ (by omega) (by omega)]
      by_cases hib : i < b.length
      · rw [if_pos (by omega), if_pos (by omega), u64_id (n := a.getD i 0) (by omega) (by omega), u64_id (n := b.getD i 0) (by omega) (by omega), u64_id (n := c + _) (by omega) (by omega)]
        rw [show c + b.getD i 0 = b.getD i 0 + c by omega, ← hx]
        rfl
      · have hb0 : b.getD i 0 = 0 := getD_ge (by omega)
        rw [if_neg (by omega), if_pos (by omega), u64_id (n := a.getD i 0) (by omega) (by omega)]
        rw [hb0, Int.zero_add] at hx
        rw [← hx]
        rfl
    · rw [val_set_take (by omega), val_take_succ' a i, val_take_succ' b i]
      have := sub_step (a := a.getD i 0) (b := b.getD i 0) (c := c) (x := x % 4294967296) (c' := x / 9223372036854775808) (p := 4294967296) hinv (by omega)
      rw [Int.pow_succ]
      exact this
theorem D_len_mono {a b : Nat} (h : b ≤ a) : (D b).length ≤ (D a).length := by
  rcases Nat.lt_or_ge (D a).length (D b).length with h1 | h1
  · have := val_lt_of_length (by decide) (D_dig a) (D_dig b) (D_top b) h1
    rw [D_val, D_val] at this
    omega
  · exact h1
theorem sub (a b : Nat) (hab : b ≤ a) (ha : bl a ≤ 1073741823) : Ev (fun k => impl_magSub.f k (D a) (D b)) (D (a - b)) := by
  have h1 := D_len a
  unfold impl_magSub.f
  refine ifp (by omega) (ifp (by omega) ?_)
  have := sub_loop (D a) (D b) (D_dig a) (D_dig b) (D_len_mono hab) (by omega) (a - b) (by rw [D_val, D_val]; omega) (D a).length 0 (List.replicate ((D a).length : Int).toNat 0) 0 (by omega) (by simp) (dig_replicate (by decide) _) (by omega) (by omega) (by simp [val])
  exact this
end Go.Proofs.YtjggbalhpflbbaaGreat.Pn
end
section
namespace Go.Proofs.YtjggbalhpflbbaaGreat.Po
open Go.RowKit Go.Proofs.YtjggbalhpflbbaaGreatW.PrintWords Go.Proofs.YtjggbalhpflbbaaGreatW.PrintMore Go.Proofs.YtjggbalhpflbbaaGreat.PW Go.Proofs.YtjggbalhpflbbaaGreat.Pc Go.Proofs.YtjggbalhpflbbaaGreat.Pn Dg
set_option linter.unusedVariables false
set_option linter.unusedSimpArgs false
theorem tdiv32 (n : Nat) (h : n ≤ 1073741824) : IntKind.u64.wrap (Int.tdiv (n : Int) 32) = ((n / 32 : Nat) : Int) := by
  rw [Int.tdiv_eq_ediv_of_nonneg (by omega), u64_id (by omega) (by omega)]; rfl
theorem tmod32 (n : Nat) : Int.tmod (n : Int) 32 = ((n % 32 : Nat) : Int) := by
  rw [Int.tmod_eq_emod_of_nonneg (by omega)]; rfl
theorem pow_le32 {r : Nat} (h : r < 32) : 1 ≤ (2 : Int) ^ r ∧ (2 : Int) ^ r ≤ 2147483648 := by
  have h1 := Nat.pow_le_pow_right (n := 2) (by decide) (show r ≤ 31 by omega)
  have h2 := Nat.two_pow_pos r
  have e : ((2 : Int) ^ r) = ((2 ^ r : Nat) : Int) := by simp
  rw [e]; omega
theorem shl_id {x : Int} {r : Nat} (h0 : 0 ≤ x) (h1 : x < 4294967296) (hr : r < 32) : shl .u64 x (r : Int) = x * 2 ^ r ∧ 0 ≤ x * 2 ^ r ∧ x * 2 ^ r ≤ 4294967295 * 2147483648 := by
  have hp := pow_le32 hr
  have h2 : x * 2 ^ r ≤ 4294967295 * 2147483648 := Int.mul_le_mul (by omega) hp.2 (by omega) (by omega)
  have h3 : 0 ≤ x * 2 ^ r := Int.mul_nonneg h0 (by omega)
  refine ⟨?_, h3, h2⟩
  unfold shl
  rw [Int.toNat_natCast, Nat.min_eq_left (by show r ≤ 64; omega), u64_id h3 (by omega)]
theorem wraps_u32 (n : Int) (h₀ : 0 ≤ n) (h₁ : n < 2 ^ 32) : IntKind.u32.wrap n = n := by rw [IntKind.wrap_u32]; omega
theorem wraps_u64 (n : Int) (h₀ : 0 ≤ n) (h₁ : n < 2 ^ 64) : IntKind.u64.wrap n = n := by rw [IntKind.wrap_u64]; omega
theorem or_low {x y : Int} {r : Nat} (hr : r < 32) (hx0 : 0 ≤ x) (hx1 : x < 2 ^ r) (hy0 : 0 ≤ y) (hy1 : y < 4294967296) (hy : y % 2 ^ r = 0) : bits .or .u32 x y = x + y := by
  have hp := pow_le32 hr
  have hc : bits .or .u32 x y = bits .or .u32 y x := by
    obtain ⟨a, rfl⟩ := Int.eq_ofNat_of_zero_le hx0
    obtain ⟨b, rfl⟩ := Int.eq_ofNat_of_zero_le hy0
    have ha : a < 2 ^ 32 := by omega
    have hb : b < 2 ^ 32 := by omega
    rw [(bits_nat .u32 32 (by decide) wraps_u32 a b ha hb).2, (bits_nat .u32 32 (by decide) wraps_u32 b a hb ha).2, Nat.or_comm]
  rw [hc, bits_join .u32 32 (by decide) wraps_u32 r y x hy0 hy (by omega) hx0 hx1 (by omega)]
  omega
theorem low_mult {x : Int} {r : Nat} (hr : r < 32) : (x * 2 ^ r) % 4294967296 % 2 ^ r = 0 := by
  have e : (4294967296 : Int) = 2 ^ (32 - r) * 2 ^ r := by
    rw [← Int.pow_add, show 32 - r + r = 32 by omega]; rfl
  rw [e, Int.emod_emod_of_dvd _ (Int.dvd_mul_left _ _), Int.mul_emod_left]
theorem high_lt {x : Int} {r : Nat} (h0 : 0 ≤ x) (h1 : x < 4294967296) (hr : r < 32) : (x * 2 ^ r) / 4294967296 < 2 ^ r := by
  have hp := pow_le32 hr
  apply Int.ediv_lt_of_lt_mul (by decide)
  rw [Int.mul_comm]
  exact Int.mul_lt_mul_of_pos_left h1 (by omega)
theorem left_loop (a : List Int) (ha : Dig 4294967296 a) (n : Nat) (hm : a.length ≤ 536870912) (hn : n ≤ 536870912) (s : Nat) (hs : val 4294967296 a * 2 ^ (n % 32) * 4294967296 ^ (n / 32) = s) (d : Nat) :
    ∀ (i : Nat) (ys : List Int), i + d = a.length → ys.length = n / 32 + a.length + 1 → Dig 4294967296 ys → (∀ j, n / 32 + i < j → ys.getD j 0 = 0) → ys.getD (n / 32 + i) 0 < 2 ^ (n % 32) →
      val 4294967296 ys = val 4294967296 (a.take i) * 2 ^ (n % 32) * 4294967296 ^ (n / 32) →
      Ev (fun k => impl_magLeft.l0 k (n : Int) ys a (a.length : Int) (i : Int)) (D s) := by
  have hr : n % 32 < 32 := by omega
  have hq : n / 32 ≤ 536870912 := by omega
  have eq := tdiv32 n (by omega)
  have er := tmod32 n
  generalize n % 32 = r at *
  generalize n / 32 = q at *
  induction d with
  | zero =>
    intro i ys hd hy hdy hz hlt hinv
    have hi : i = a.length := by omega
    subst hi
    rw [List.take_length, hs] at hinv
    refine Ev.step (f := fun k => (impl_magTrim.f k ys).bind fun t => some t) (fun k => ?_) (trimD hdy (by omega) hinv)
    simp only [impl_magLeft.l0]
    rw [if_neg (by omega)]
  | succ d ih =>
    intro i ys hd hy hdy hz hlt hinv
    have hai := ha.all0 (by decide) i
    have hyi := hdy.all0 (by decide) (q + i)
    have hz1 := hz (q + i + 1) (by omega)
    obtain ⟨hs1, hs2, hs3⟩ := shl_id hai.1 hai.2 hr
    have hlow := low_mult (x := a.getD i 0) hr
    have hhigh := high_lt hai.1 hai.2 hr
    generalize hw : a.getD i 0 * 2 ^ r = w at *
    have hor := or_low hr hyi.1 hlt (y := w % 4294967296) (by omega) (by omega) hlow
    have hp := pow_le32 hr
    have hsum : ys.getD (q + i) 0 + w % 4294967296 < 4294967296 := by
      -- both below the base, one a multiple of the power
      have h1 : w % 4294967296 ≤ 4294967296 - 2 ^ r := by
        have e : (4294967296 : Int) % 2 ^ r = 0 := by
          have : (4294967296 : Int) = 2 ^ (32 - r) * 2 ^ r := by rw [← Int.pow_add, show 32 - r + r = 32 by omega]; rfl
          rw [this]; simp
        have h2 : (4294967296 - w % 4294967296) % 2 ^ r = 0 := by
          rw [Int.sub_emod, e, hlow]; simp
        have h3 : 0 < 4294967296 - w % 4294967296 := by omega
        have h4 := Int.emod_add_mul_ediv (4294967296 - w % 4294967296) (2 ^ r)
        rw [h2, Int.zero_add] at h4
        have h5 : 0 < (4294967296 - w % 4294967296) / 2 ^ r := by
          rcases Int.lt_or_le 0 ((4294967296 - w % 4294967296) / 2 ^ r) with h | h
          · exact h
          · have := Int.mul_nonneg (show (0 : Int) ≤ 2 ^ r by omega) (show 0 ≤ -((4294967296 - w % 4294967296) / 2 ^ r) by omega)
            rw [Int.mul_neg] at this
            omega
        have h6 : (2 : Int) ^ r * 1 ≤ 2 ^ r * ((4294967296 - w % 4294967296) / 2 ^ r) := Int.mul_le_mul_of_nonneg_left (by omega) (by omega)
        omega
      omega
    refine Ev.step (f := fun k => impl_magLeft.l0 k (n : Int) ((ys.set (q + i) (ys.getD (q + i) 0 + w % 4294967296)).set (q + i + 1) (w / 4294967296)) a (a.length : Int) ((i + 1 : Nat) : Int)) (fun k => ?_)
      (ih (i + 1) _ (by omega) (by simpa using hy) ((hdy.set _ (by omega) (by omega)).set _ (by omega) (by omega)) (fun j hj => ?_) ?_ ?_)
    · simp only [impl_magLeft.l0]
      rw [if_pos (by omega), if_pos (by omega), if_pos (by omega), er, eq, wrapZ (q : Int) (by omega) (by omega), wrapZ ((q : Int) + (i : Int)) (by omega) (by omega), wrapZ ((q : Int) + (i : Int) + 1) (by omega) (by omega),
        if_pos (by omega), if_pos (by omega), if_pos (by omega), if_pos (by omega), if_pos (by omega), rdN, show (q : Int) + (i : Int) = ((q + i : Nat) : Int) by omega, rdN, u64_id (n := a.getD i 0) (by omega) (by omega), hs1, hor,
        show (w / 4294967296) % 4294967296 = w / 4294967296 by omega, Int.toNat_natCast, show (((q + i : Nat) : Int) + 1).toNat = q + i + 1 by omega, wrapZ _ (by omega) (by omega)]
      rfl
    · rw [Dg.getD_set_ne (by omega), Dg.getD_set_ne (by omega)]; exact hz j (by omega)
    · rw [show q + (i + 1) = q + i + 1 by omega, Dg.getD_set_eq (by simp <;> omega)]; exact hhigh
    · rw [val_set (by simp <;> omega), val_set (by omega), Dg.getD_set_ne (by omega), hz1, val_take_succ' a i, hinv, Int.pow_succ]
      have h1 : w = w % 4294967296 + 4294967296 * (w / 4294967296) := by omega
      have e : ((4294967296 : Nat) : Int) = 4294967296 := rfl
      rw [e, Int.pow_add]
      generalize (4294967296 : Int) ^ i = P at *
      generalize (4294967296 : Int) ^ q = Q at *
      generalize w % 4294967296 = lo at *
      generalize w / 4294967296 = hi at *
      generalize a.getD i 0 = ai at *
      generalize (2 : Int) ^ r = R at *
      generalize val 4294967296 (List.take i a) = Va at *
      generalize ys.getD (q + i) 0 = y0 at *
      clear ih hlow hhigh hsum hor
      grind
theorem pow_split (n : Nat) : (2 : Int) ^ (n % 32) * 4294967296 ^ (n / 32) = 2 ^ n := by
  rw [show (4294967296 : Int) = 2 ^ 32 from rfl, ← Int.pow_mul, ← Int.pow_add]
  congr 1
  omega
theorem left (a n : Nat) (ha : bl a ≤ 536870912) (hn : n ≤ 536870912) : Ev (fun k => impl_magLeft.f k (D a) (n : Int)) (D (a * 2 ^ n)) := by
  have h1 := D_len a
  unfold impl_magLeft.f
  by_cases h0 : a = 0
  · subst h0
    rw [Nat.zero_mul, D_zero]
    exact ifp rfl (ev_of fun _ => rfl)
  · have hp := D_pos h0
    refine ifn (by omega) ?_
    rw [tdiv32 n (by omega), wrapZ ((n / 32 : Nat) : Int) (by omega) (by omega), wrapZ (((n / 32 : Nat) : Int) + ((D a).length : Int)) (by omega) (by omega), wrapZ _ (by omega) (by omega)]
    refine ifp (by omega) (ifp (by omega) ?_)
    have := left_loop (D a) (D_dig a) n (by omega) hn (a * 2 ^ n) (by
      rw [D_val, Int.mul_assoc, pow_split]; simp) (D a).length 0 (List.replicate (((n / 32 : Nat) : Int) + ((D a).length : Int) + 1).toNat 0) (by omega) (by simp <;> omega) (dig_replicate (by decide) _)
      (fun j _ => by simp [List.getD, List.getElem?_replicate]; split <;> rfl) (by
        have : (List.replicate (((n / 32 : Nat) : Int) + ((D a).length : Int) + 1).toNat (0 : Int)).getD (n / 32 + 0) 0 = 0 := by simp [List.getD, List.getElem?_replicate]; split <;> rfl
        rw [this]
        have := (pow_le32 (show n % 32 < 32 by omega)).1
        omega) (by rw [List.take_zero, val_nil, val_zeros]; simp)
    exact this
theorem or_high {x y : Int} (hx0 : 0 ≤ x) (hx1 : x < 4294967296) (hy0 : 0 ≤ y) (hy1 : y < 4294967296) : bits .or .u64 x (y * 4294967296) = x + 4294967296 * y := by
  have hc : bits .or .u64 x (y * 4294967296) = bits .or .u64 (y * 4294967296) x := by
    obtain ⟨a, rfl⟩ := Int.eq_ofNat_of_zero_le hx0
    obtain ⟨b, rfl⟩ := Int.eq_ofNat_of_zero_le hy0
    have e : (b : Int) * 4294967296 = ((b * 4294967296 : Nat) : Int) := by simp
    have ha : a < 2 ^ 64 := by omega
    have hb : b * 4294967296 < 2 ^ 64 := by omega
    rw [e, (bits_nat .u64 64 (by decide) wraps_u64 a _ ha hb).2, (bits_nat .u64 64 (by decide) wraps_u64 _ a hb ha).2, Nat.or_comm]
  rw [hc, bits_join .u64 64 (by decide) wraps_u64 32 (y * 4294967296) x (by omega) (by omega) (by omega) hx0 (by omega) (by omega)]
  omega
theorem right_digit (X r : Nat) (hr : r < 32) : (X % 4294967296 + 4294967296 * (X / 4294967296 % 4294967296)) / 2 ^ r % 4294967296 = X / 2 ^ r % 4294967296 := by
  have h1 := Nat.mod_mul (a := 4294967296) (b := 4294967296) (x := X)
  rw [← h1]
  have e : (4294967296 * 4294967296 : Nat) = 2 ^ r * 2 ^ (64 - r) := by
    rw [← Nat.pow_add, show r + (64 - r) = 64 by omega]
  rw [e, Nat.mod_mul_right_div_self, Nat.mod_mod_of_dvd]
  rw [show (4294967296 : Nat) = 2 ^ 32 from rfl]
  exact Nat.pow_dvd_pow 2 (by omega)
theorem shr_id {x : Int} {r : Nat} (hr : r < 32) : shr .u64 x (r : Int) = x / 2 ^ r := by
  unfold shr
  rw [Int.toNat_natCast, Nat.min_eq_left (by show r ≤ 64; omega)]
theorem right_loop (m : List Int) (M n : Nat) (hm : m.length ≤ 1073741824) (hM : ∀ j, m.getD j 0 = ((M / 4294967296 ^ j % 4294967296 : Nat) : Int)) (hl : M < 4294967296 ^ m.length) (d : Nat) :
    ∀ (i : Nat) (ys : List Int), i + d = m.length → ys.length = m.length → Dig 4294967296 ys → (∀ j, j < i → ys.getD j 0 = ((M / 2 ^ (n % 32) / 4294967296 ^ j % 4294967296 : Nat) : Int)) →
      Ev (fun k => impl_magRight.l0 k m (n : Int) ys m (m.length : Int) (i : Int)) (D (M / 2 ^ (n % 32))) := by
  have hr : n % 32 < 32 := by omega
  have er := tmod32 n
  generalize n % 32 = r at *
  induction d with
  | zero =>
    intro i ys hd hy hdy hdig
    have hi : i = m.length := by omega
    subst hi
    have hv := val_digits (by decide) ys (M / 2 ^ r) (fun j hj => hdig j (by omega))
    have hlt : M / 2 ^ r < 4294967296 ^ ys.length := by rw [hy]; exact Nat.lt_of_le_of_lt (Nat.div_le_self _ _) hl
    rw [Nat.mod_eq_of_lt hlt] at hv
    refine Ev.step (f := fun k => (impl_magTrim.f k ys).bind fun t => some t) (fun k => ?_) (trimD hdy (by omega) hv)
    simp only [impl_magRight.l0]
    rw [if_neg (by omega)]
  | succ d ih =>
    intro i ys hd hy hdy hdig
    have hmi := hM i
    have hmj := hM (i + 1)
    obtain ⟨X, hX⟩ : ∃ X, X = M / 4294967296 ^ i := ⟨_, rfl⟩
    have hX2 : M / 4294967296 ^ (i + 1) = X / 4294967296 := by rw [hX, Nat.pow_succ, Nat.div_div_eq_div_mul]
    rw [← hX] at hmi
    rw [hX2] at hmj
    have hd0 := right_digit X r hr
    have hX3 : M / 2 ^ r / 4294967296 ^ i = X / 2 ^ r := by rw [hX, Nat.div_div_eq_div_mul, Nat.div_div_eq_div_mul, Nat.mul_comm]
    have hpw : ((2 : Int) ^ r) = ((2 ^ r : Nat) : Int) := by simp
    obtain ⟨v, hv⟩ : ∃ v : Nat, v = X / 2 ^ r % 4294967296 := ⟨_, rfl⟩
    refine Ev.step (f := fun k => impl_magRight.l0 k m (n : Int) (ys.set i (v : Int)) m (m.length : Int) ((i + 1 : Nat) : Int)) (fun k => ?_)
      (ih (i + 1) _ (by omega) (by simpa using hy) (hdy.set _ (by omega) (by omega)) (fun j hj => ?_))
    · simp only [impl_magRight.l0]
      rw [if_pos (by omega), if_pos (by omega), if_pos (by omega), er, rdN, wrapZ _ (by omega) (by omega), hmi]
      by_cases hj : i + 1 < m.length
      · rw [if_pos (by omega), if_pos (by omega), if_pos (by omega), if_pos (by omega), show (i : Int) + 1 = ((i + 1 : Nat) : Int) by omega, rdN, hmj, u64_id (n := ((X % 4294967296 : Nat) : Int)) (by omega) (by omega),
          u64_id (n := ((X / 4294967296 % 4294967296 : Nat) : Int)) (by omega) (by omega), u64_id (n := _ * 4294967296) (by omega) (by omega), or_high (by omega) (by omega) (by omega) (by omega), shr_id hr, hpw, Int.toNat_natCast]
        rw [hv, ← hd0]
        rfl
      · have h0 : m.getD (i + 1) 0 = 0 := getD_ge (by omega)
        rw [hmj] at h0
        have h1 : X / 4294967296 % 4294967296 = 0 := by omega
        rw [h1, Nat.mul_zero, Nat.add_zero] at hd0
        rw [if_neg (by omega), if_pos (by omega), if_pos (by omega), u64_id (n := ((X % 4294967296 : Nat) : Int)) (by omega) (by omega), shr_id hr, hpw, Int.toNat_natCast]
        rw [hv, ← hd0]
        rfl
    · by_cases hji : j = i
      · subst hji
        rw [Dg.getD_set_eq (by omega), hX3, hv]
      · rw [Dg.getD_set_ne (by omega)]
        exact hdig j (by omega)
theorem right (a n : Nat) (ha : bl a ≤ 536870912) (hn : n ≤ 536870912) : Ev (fun k => impl_magRight.f k (D a) (n : Int)) (D (a / 2 ^ n)) := by
  have h1 := D_len a
  have hpow : (2 : Nat) ^ n = 4294967296 ^ (n / 32) * 2 ^ (n % 32) := by
    rw [show (4294967296 : Nat) = 2 ^ 32 from rfl, ← Nat.pow_mul, ← Nat.pow_add]
    congr 1
    omega
  unfold impl_magRight.f
  rw [tdiv32 n (by omega), u64_id (n := ((D a).length : Int)) (by omega) (by omega)]
  by_cases hq : (D a).length ≤ n / 32
  · have hlt : a < 4294967296 ^ (D a).length := lt_of_dg_length _
    have h2 := Nat.pow_le_pow_right (n := 4294967296) (by decide) hq
    have h3 : a / 2 ^ n = 0 := by
      rw [hpow, ← Nat.div_div_eq_div_mul, Nat.div_eq_of_lt (Nat.lt_of_lt_of_le hlt h2), Nat.zero_div]
    rw [h3, D_zero]
    exact ifp (by omega) (ev_of fun _ => rfl)
  · refine ifn (by omega) (ifp (by omega) (ifp (by omega) (ifp (by omega) ?_)))
    simp only [Int.toNat_natCast]
    have hlen : ((D a).drop (n / 32)).length = (D a).length - n / 32 := List.length_drop
    refine ifp (by omega) ?_
    obtain ⟨M, hM⟩ : ∃ M, M = a / 4294967296 ^ (n / 32) := ⟨_, rfl⟩
    have hfin : a / 2 ^ n = M / 2 ^ (n % 32) := by rw [hpow, hM, Nat.div_div_eq_div_mul]
    rw [hfin]
    have hlt : a < 4294967296 ^ (D a).length := lt_of_dg_length _
    exact right_loop ((D a).drop (n / 32)) M n (by omega) (fun j => by
      have e : ((D a).drop (n / 32)).getD j 0 = (D a).getD (n / 32 + j) 0 := by simp [List.getD, List.getElem?_drop]
      rw [e, D_getD, hM, Nat.div_div_eq_div_mul, ← Nat.pow_add]) (by
      rw [hlen, hM]
      apply Nat.div_lt_of_lt_mul
      rw [← Nat.pow_add, show n / 32 + ((D a).length - n / 32) = (D a).length by omega]
      exact hlt) ((D a).drop (n / 32)).length 0 _ (by omega) (by simp) (dig_replicate (by decide) _) (fun j hj => by omega)
end Go.Proofs.YtjggbalhpflbbaaGreat.Po
end
section
namespace Go.Proofs.YtjggbalhpflbbaaGreat.PW
open Go.RowKit Go.Proofs.YtjggbalhpflbbaaGreatW.PrintWords Go.Proofs.YtjggbalhpflbbaaGreatW.PrintLast Go.Proofs.YtjggbalhpflbbaaGreatW.PrintMore
attribute [local go_sem] max2_int min2_int max_two min_two max_three min_three max_four min_four   -- for this text's walks alone
set_option linter.unusedVariables false
set_option linter.unusedSimpArgs false
def laws_szInt64S.f (l0 : List Int) (a1 : Int) : Option (Int) := if (wrap64 (a1 - (l0.length : Int))) < 0 then (some (-1)) else (some (wrap64 (a1 - (l0.length : Int))))
set_option maxHeartbeats 8000000 in
set_option maxRecDepth 100000 in
theorem laws_szInt64S.calls (A0 : Option Addr) (c0 : Nat) (l0 : List Int) (a1 : Int) (r : Int) (w : World) (hr0 : Kd.C (Kd.int .i64) w A0 l0.length l0) (hc0 : l0.length ≤ c0) (h : laws_szInt64S.f l0 a1 = some r) :
  Calls Tryz.prog 26 #[.slice A0 l0.length c0, .int .i64 a1] w fun e w' => e = .returned (.int .i64 r) ∧ Drawn0 w w' := by
 have HR0 := Azq.mk hr0
 have HC0 := Azq.mk hc0
 clear hr0 hc0
 have H : (if (wrap64 (a1 - (l0.length : Int))) < 0 then (some (-1)) else (some (wrap64 (a1 - (l0.length : Int))))) = some r := h
 clear h
 by_cases c3 : (wrap64 (a1 - (l0.length : Int))) < 0
 ·rw [if_pos c3] at H
  have c3b0 : decide ((wrap64 (a1 - (l0.length : Int))) < 0) = true := decide_eq_true c3
  clear c3
  obtain rfl := Option.some.inj H
  go_enter Tryz.func26, Tryz.ntmps26
  go_wp2
  go_ret
  exact ⟨by first | rfl | (simp; done) | (simp [*]; done), by repeat (first | exact Drawn0.refl _ | apply Drawn0.step)⟩
 ·rw [if_neg c3] at H
  have c3b0 : decide ((wrap64 (a1 - (l0.length : Int))) < 0) = false := decide_eq_false c3
  clear c3
  obtain rfl := Option.some.inj H
  go_enter Tryz.func26, Tryz.ntmps26
  go_wp2
  go_ret
  exact ⟨by first | rfl | (simp; done) | (simp [*]; done), by repeat (first | exact Drawn0.refl _ | apply Drawn0.step)⟩
end Go.Proofs.YtjggbalhpflbbaaGreat.PW
end
section
namespace Go.Proofs.YtjggbalhpflbbaaGreat.PW
open Go.RowKit Go.Proofs.YtjggbalhpflbbaaGreatW.PrintWords Go.Proofs.YtjggbalhpflbbaaGreatW.PrintLast Go.Proofs.YtjggbalhpflbbaaGreatW.PrintMore
attribute [local go_sem] max2_int min2_int max_two min_two max_three min_three max_four min_four   -- for this text's walks alone
set_option linter.unusedVariables false
set_option linter.unusedSimpArgs false
def laws_szWhole.f (a0_0 : Int) (l0_1 : List Int) (a1 : Int) : Option (Int) := (laws_szInt64S.f l0_1 a1).bind fun t102 => (if t102 < 0 then (some (-1)) else (some t102))
set_option maxHeartbeats 8000000 in
set_option maxRecDepth 100000 in
theorem laws_szWhole.calls (a0_0 : Int) (A0_1 : Option Addr) (c0_1 : Nat) (l0_1 : List Int) (a1 : Int) (r : Int) (w : World) (hr0_1 : Kd.C (Kd.int .i64) w A0_1 l0_1.length l0_1) (hc0_1 : l0_1.length ≤ c0_1) (h : laws_szWhole.f a0_0 l0_1 a1 = some r) :
  Calls Tryz.prog 11 #[.agg #[.int .i64 a0_0, .slice A0_1 l0_1.length c0_1], .int .i64 a1] w fun e w' => e = .returned (.int .i64 r) ∧ Below w.heap.size w w' := by
 have hu24 := Tryz.underlying24
 have HR0_1 := Azq.mk hr0_1
 have HC0_1 := Azq.mk hc0_1
 clear hr0_1 hc0_1
 have HB := Azq.mk (Below.refl w.heap.size w)
 have H : ((laws_szInt64S.f l0_1 a1).bind fun t102 => (if t102 < 0 then (some (-1)) else (some t102))) = some r := h
 clear h
 replace H := Option.bind_eq_some_iff.mp H
 obtain ⟨t102, A30, H⟩ := H
 replace H : (if t102 < 0 then (some (-1)) else (some t102)) = some r := H
 have A3 := Azq.mk A30
 clear A30
 by_cases c4 : t102 < 0
 ·rw [if_pos c4] at H
  have c4b0 : decide (t102 < 0) = true := decide_eq_true c4
  clear c4
  obtain rfl := Option.some.inj H
  go_enter Tryz.func11, Tryz.ntmps11
  go_wp2_with (first | ((with_reducible refine gate_dst (N := 2) rfl ?_); refine box_event ?hg (N := 2) ?hd (cs := #[.int .i64 a0_0, .slice A0_1 l0_1.length c0_1]) (t := 24) ?hr ?_; (case hd => rfl); (case hg => rfl); (case hr => first | (go_simp; done) | (go_simp; rfl)); intro gb101 hg w5 hbox hb; have n0_ := Azq.mk (wtq (by repeat (first | (with_reducible first | exact HB.out | apply waq | apply wdq | apply wrq) | exact HB.out)) hb); have n1_ := Azq.mk (hbox); have n2_ := Azq.mk ((by rw [hg]; exact (wzq (by repeat (first | (with_reducible first | exact HB.out | apply waq | apply wdq | apply wrq) | exact HB.out))) : w.heap.size ≤ gb101)); have n3_ := n2_; clear HB; have HB := n0_; have BK101 := n1_; have GW101 := n2_; have GE101 := n3_; clear n0_ n1_ n2_ n3_; clear hb hbox hg; have hcz6_0 : w5.cell? ⟨gb101, 0, none⟩ = some (.int .i64 a0_0) := (kcq BK101.out 0).trans rfl; have hcz6_1 : w5.cell? ⟨gb101, 1, none⟩ = some (.slice A0_1 l0_1.length c0_1) := (kcq BK101.out 1).trans rfl; have hfz6_0 := kfq BK101.out 0; have hfz6_1 := kfq BK101.out 1) | ((with_reducible refine gate_callee (f := 26) rfl ?_); refine goesL_ (some 8) rfl rfl Tryz.func26 (by kernel_rfl) rfl #[.slice A0_1 l0_1.length c0_1, .int .i64 a1] rfl (by (try simp only [List.map_toArray, List.map_cons, List.map_nil]); first | done | rfl | (simp only [List.length_drop, List.length_take]; rfl)) ?_; (with_reducible refine (laws_szInt64S.calls _ _ l0_1 a1 t102 _ ?side1 ?side2 A3.out).mono ?_); (case side1 => repeat (first | exact (Kd.C_below HR0_1.out HB.out) | (with_reducible refine Kd.C_alloc ?_ _) | (with_reducible refine Kd.C_drewN ?_ _) | (with_reducible refine Kd.C_drew ?_))); (case side2 => exact HC0_1.out); rintro e w' ⟨rfl, ⟨nd, rfl⟩⟩; refine ⟨_, rfl, ?_⟩))
  go_ret
  exact ⟨by first | rfl | (simp [errW_none, errW_some] <;> rfl) | (simp [*, errW_none, errW_some] <;> rfl), by repeat (first | (with_reducible first | exact HB.out | apply waq | apply wdq | apply wrq | refine wsq ?_ GE101.out) | exact HB.out)⟩
 ·rw [if_neg c4] at H
  have c4b0 : decide (t102 < 0) = false := decide_eq_false c4
  clear c4
  obtain rfl := Option.some.inj H
  go_enter Tryz.func11, Tryz.ntmps11
  go_wp2_with (first | ((with_reducible refine gate_dst (N := 2) rfl ?_); refine box_event ?hg (N := 2) ?hd (cs := #[.int .i64 a0_0, .slice A0_1 l0_1.length c0_1]) (t := 24) ?hr ?_; (case hd => rfl); (case hg => rfl); (case hr => first | (go_simp; done) | (go_simp; rfl)); intro gb101 hg w7 hbox hb; have n0_ := Azq.mk (wtq (by repeat (first | (with_reducible first | exact HB.out | apply waq | apply wdq | apply wrq) | exact HB.out)) hb); have n1_ := Azq.mk (hbox); have n2_ := Azq.mk ((by rw [hg]; exact (wzq (by repeat (first | (with_reducible first | exact HB.out | apply waq | apply wdq | apply wrq) | exact HB.out))) : w.heap.size ≤ gb101)); have n3_ := n2_; clear HB; have HB := n0_; have BK101 := n1_; have GW101 := n2_; have GE101 := n3_; clear n0_ n1_ n2_ n3_; clear hb hbox hg; have hcz8_0 : w7.cell? ⟨gb101, 0, none⟩ = some (.int .i64 a0_0) := (kcq BK101.out 0).trans rfl; have hcz8_1 : w7.cell? ⟨gb101, 1, none⟩ = some (.slice A0_1 l0_1.length c0_1) := (kcq BK101.out 1).trans rfl; have hfz8_0 := kfq BK101.out 0; have hfz8_1 := kfq BK101.out 1) | ((with_reducible refine gate_callee (f := 26) rfl ?_); refine goesL_ (some 8) rfl rfl Tryz.func26 (by kernel_rfl) rfl #[.slice A0_1 l0_1.length c0_1, .int .i64 a1] rfl (by (try simp only [List.map_toArray, List.map_cons, List.map_nil]); first | done | rfl | (simp only [List.length_drop, List.length_take]; rfl)) ?_; (with_reducible refine (laws_szInt64S.calls _ _ l0_1 a1 t102 _ ?side1 ?side2 A3.out).mono ?_); (case side1 => repeat (first | exact (Kd.C_below HR0_1.out HB.out) | (with_reducible refine Kd.C_alloc ?_ _) | (with_reducible refine Kd.C_drewN ?_ _) | (with_reducible refine Kd.C_drew ?_))); (case side2 => exact HC0_1.out); rintro e w' ⟨rfl, ⟨nd, rfl⟩⟩; refine ⟨_, rfl, ?_⟩))
  go_ret
  exact ⟨by first | rfl | (simp [errW_none, errW_some] <;> rfl) | (simp [*, errW_none, errW_some] <;> rfl), by repeat (first | (with_reducible first | exact HB.out | apply waq | apply wdq | apply wrq | refine wsq ?_ GE101.out) | exact HB.out)⟩
end Go.Proofs.YtjggbalhpflbbaaGreat.PW
end
section
namespace Go.Proofs.YtjggbalhpflbbaaGreat.PW
open Go.RowKit Go.Proofs.YtjggbalhpflbbaaGreatW.PrintWords Go.Proofs.YtjggbalhpflbbaaGreatW.PrintLast Go.Proofs.YtjggbalhpflbbaaGreatW.PrintMore
attribute [local go_sem] max2_int min2_int max_two min_two max_three min_three max_four min_four   -- for this text's walks alone
set_option linter.unusedVariables false
set_option linter.unusedSimpArgs false
def laws_toInt64S.l0 : Nat → List Int → List Int → Int → Option (List Int)
 | 0, _, _, _ => none
 | k + 1, x0, x3, x4 => if x4 < (x0.length : Int) then (if 0 ≤ x4 then (if x4 < (x3.length : Int) then (laws_toInt64S.l0 k x0 (x3.set (x4 : Int).toNat (rd x0 x4)) (wrap64 (x4 + 1))) else (none)) else (none)) else (some x3)
def laws_toInt64S.f (k : Nat) (l0 : List Int) : Option (List Int) := if 0 ≤ (l0.length : Int) then (if ((l0.length : Int) : Int).toNat ≤ 35184372088832 then (laws_toInt64S.l0 k l0 (List.replicate ((l0.length : Int) : Int).toNat 0) 0) else (none)) else (none)
theorem laws_toInt64S.mono_l : ∀ k, (∀ y0 y1 y2, LeO (laws_toInt64S.l0 k y0 y1 y2) (laws_toInt64S.l0 (k + 1) y0 y1 y2))
 | 0 => fun _ _ _ r h => by simp [laws_toInt64S.l0] at h
 | k + 1 => by
  have ih0 := laws_toInt64S.mono_l k
  ·intro y0 y1 y2
   unfold laws_toInt64S.l0
   repeat' first
   | (with_reducible exact ih0 _ _ _)
   | (with_reducible exact LeO.refl _)
   | (with_reducible exact LeO.none _)
   | (with_reducible refine LeO.ite ?_ ?_)
   | (with_reducible refine LeO.bind ?_ (fun _ => ?_))
   | exact ih0 _ _ _
   | exact LeO.none _
   | refine LeO.ite ?_ ?_
   | refine LeO.bind ?_ (fun _ => ?_)
theorem laws_toInt64S.mono : ∀ a0 k, LeO (laws_toInt64S.f k a0) (laws_toInt64S.f (k + 1) a0) := by
 intro a0 k
 have ih0 := laws_toInt64S.mono_l k
 unfold laws_toInt64S.f
 repeat' first
   | (with_reducible exact ih0 _ _ _)
   | (with_reducible exact LeO.refl _)
   | (with_reducible exact LeO.none _)
   | (with_reducible refine LeO.ite ?_ ?_)
   | (with_reducible refine LeO.bind ?_ (fun _ => ?_))
   | exact ih0 _ _ _
   | exact LeO.none _
   | refine LeO.ite ?_ ?_
   | refine LeO.bind ?_ (fun _ => ?_)
set_option maxHeartbeats 8000000 in
set_option maxRecDepth 100000 in
theorem laws_toInt64S.calls (k : Nat) (A0 : Option Addr) (c0 : Nat) (l0 : List Int) (r : List Int) (w : World) (hr0 : Kd.C (Kd.int .i64) w A0 l0.length l0) (hc0 : l0.length ≤ c0) (h : laws_toInt64S.f k l0 = some r) :
  Calls Tryz.prog 39 #[.slice A0 l0.length c0] w fun e w' => ∃ v0_ : Value, e = .returned (v0_) ∧ Kd.R (Kd.int .i64) 2 w' w.heap.size (fun _ => True) v0_ r ∧ Below w.heap.size w w' := by
 have HR0 := Azq.mk hr0
 have HC0 := Azq.mk hc0
 clear hr0 hc0
 have HB := Azq.mk (Below.refl w.heap.size w)
 have H : (if 0 ≤ (l0.length : Int) then (if ((l0.length : Int) : Int).toNat ≤ 35184372088832 then (laws_toInt64S.l0 k l0 (List.replicate ((l0.length : Int) : Int).toNat 0) 0) else (none)) else (none)) = some r := h
 clear h
 by_cases c2 : 0 ≤ (l0.length : Int)
 ·rw [if_pos c2] at H
  have c2b0 := eq_true c2
  have c2b1 : decide (0 ≤ (l0.length : Int)) = true := decide_eq_true c2
  clear c2
  by_cases c3 : ((l0.length : Int) : Int).toNat ≤ 35184372088832
  ·rw [if_pos c3] at H
   have c3b0 := eq_true c3
   have c3b1 : decide (((l0.length : Int) : Int).toNat ≤ 35184372088832) = true := decide_eq_true c3
   clear c3
   obtain ⟨y359, hy359⟩ : ∃ y_ : List Int, y_ = (List.replicate ((l0.length : Int) : Int).toNat 0) := ⟨_, rfl⟩
   replace H : (laws_toInt64S.l0 k l0 y359 0) = some r := by first | (rw [hy359]; with_reducible exact H) | (have H2_ := (Option.bind_some _ _).symm.trans H; rw [hy359]; with_reducible exact H2_) | (have H2_ := (Option.bind_some _ _).symm.trans H; with_reducible exact H2_) | with_reducible exact H | (rw [hy359]; exact H) | exact H
   have Ny359 := Azq.mk hy359
   clear hy359
   have H' := Azq.mk H
   clear H
   go_enter Tryz.func39, Tryz.ntmps39
   go_wp2_with (first | ((with_reducible refine gate_dst (N := 7) rfl ?_); refine Kd.R_make (Kd.int .i64) _ 2 rfl (N := 7) rfl 22 _ _ rfl (l0.length : Int) rfl rfl Tryz.underlying22 (.int .i64 0) 8 info2 rfl (by decide) (by omega) 0 (ok := fun _ => True) (okp := fun _ => True) rfl (fun _ hk => hk) trivial (of_decide_eq_true (by first | (with_reducible assumption) | assumption)) (Nat.le_trans (Nat.mul_le_mul_right _ (of_decide_eq_true (by first | (with_reducible assumption) | assumption) : (l0.length : Int).toNat ≤ 35184372088832)) (by omega)) (Below.refl _ _) (Nat.le_refl _) ?_; intro v360 w4 ho5 hb hg_ hnew_; clear hg_ hnew_; (first | rw [← Ny359.out] at ho5 | (simp only [Int.reduceToNat] at ho5; rw [← Ny359.out] at ho5)); have n0_ := Azq.mk (Kd.R_lower ho5 (wzq (by repeat (first | (with_reducible first | exact HB.out | apply waq | apply wdq | apply wrq) | exact HB.out)))); have n1_ := Azq.mk (wtq (by repeat (first | (with_reducible first | exact HB.out | apply waq | apply wdq | apply wrq) | exact HB.out)) hb); clear HB; have HO361 := n0_; have HB := n1_; clear n0_ n1_; clear hb ho5))
   go_loopg [4] k (fun kq v4 w' => ∃ (x3_1 : List Int) (x4_1 : Int), v4 = .int .i64 x4_1 ∧ Azq (laws_toInt64S.l0 kq l0 x3_1 x4_1 = some r) ∧ Azq (kq ≤ k) ∧ Azq (Kd.R (Kd.int .i64) 2 w' w.heap.size (fun _ => True) v360 x3_1) ∧ Azq (Below w.heap.size w w'))
   case atStart => exact ⟨(y359), (0), (by first | rfl | (simp; done) | (simp [*]; done)), H', ⟨Nat.le_refl _⟩, ⟨by (with_reducible repeat (first | apply Kd.R_alloc | apply Kd.R_drewN | apply Kd.R_drew)); exact HO361.out⟩, ⟨by repeat (first | (with_reducible first | exact HB.out | apply waq | apply wdq | apply wrq) | exact HB.out)⟩⟩
   case round =>
    clear H'
    try clear c2
    try clear c2b0
    try clear c2b1
    try clear p2
    try clear c3
    try clear c3b0
    try clear c3b1
    obtain ⟨x3_1, x4_1, rfl, HA, HK1, HO_3, HB⟩ := hrel
    cases gk with
    | zero => exact absurd HA.out (by simp [laws_toInt64S.l0])
    | succ k1 =>
     have H := HA.out
     clear HA
     simp only [laws_toInt64S.l0] at H
     by_cases c6 : x4_1 < (l0.length : Int)
     ·rw [if_pos c6] at H
      have c6b0 : decide (x4_1 < (l0.length : Int)) = true := decide_eq_true c6
      clear c6
      by_cases c7 : 0 ≤ x4_1
      ·rw [if_pos c7] at H
       have c7b0 : decide (0 ≤ x4_1) = true := decide_eq_true c7
       clear c7
       by_cases c8 : x4_1 < (x3_1.length : Int)
       ·rw [if_pos c8] at H
        have c8b0 : decide (x4_1 < (x3_1.length : Int)) = true := decide_eq_true c8
        clear c8
        obtain ⟨y363, hy363⟩ : ∃ y_ : List Int, y_ = (x3_1.set (x4_1 : Int).toNat (rd l0 x4_1)) := ⟨_, rfl⟩
        replace H : (laws_toInt64S.l0 k1 l0 y363 (wrap64 (x4_1 + 1))) = some r := by first | (rw [hy363]; with_reducible exact H) | (have H2_ := (Option.bind_some _ _).symm.trans H; rw [hy363]; with_reducible exact H2_) | (have H2_ := (Option.bind_some _ _).symm.trans H; with_reducible exact H2_) | with_reducible exact H | (rw [hy363]; exact H) | exact H
        have Ny363 := Azq.mk hy363
        clear hy363
        have H' := Azq.mk H
        clear H
        have p362 : 0 ≤ (x4_1 : Int) := of_decide_eq_true (by first | (with_reducible assumption) | assumption)
        have q362 : x4_1 < (l0.length : Int) := of_decide_eq_true (by first | (with_reducible assumption) | assumption)
        obtain ⟨ad362, e362, hx362_0⟩ := Kd.at_int HR0.out x4_1 p362 q362
        cases e362
        replace hx362_0 := (HB.out.cell (World.block_lt_of_cell? w _ hx362_0)).trans hx362_0
        replace p362 := eq_true p362
        replace q362 := eq_true q362
        have p9 : 0 ≤ (x4_1 : Int) := of_decide_eq_true (by first | (with_reducible assumption) | assumption)
        have q9 : (x4_1 : Int) < ((x3_1.length : Int) : Int) := of_decide_eq_true (by first | (with_reducible assumption) | assumption)
        obtain ⟨go9, co9, eo9, gb9, gl9, cl9, HG9⟩ := Kd.R_form HO_3.out (by omega)
        (first | cases eo9 | (injection eo9 with ea_ en_ ec_; (first | subst ea_ | (injection ea_ with ea_; subst ea_)); subst ec_; clear en_))
        have GB9 := Azq.mk gb9
        have GG9 := Azq.mk HG9
        clear gb9 gl9 HG9
        obtain ⟨hx9_0, hf9_0⟩ := Kd.R_celln 0 HO_3.out (x4_1 : Int) p9 q9
        replace p9 := eq_true p9
        replace q9 := eq_true q9
        have HP10 := Kd.R_putg HO_3.out (x4_1 : Int) (rd l0 x4_1)
        go_wp2_with (first | ((with_reducible refine gate_store (t := 2) (p := 20) rfl ?_); refine store_event (t := 2) (p := 20) (v := ?vo_w11) (w1 := (wr.setCell ⟨go9, (x4_1 : Int).toNat, none⟩ (.int .i64 (rd l0 x4_1)))) ?hg ?ho ?hn ?hr ?_; (case ho => rfl); (case hg => rfl); (case hn => rfl); (case hr => first | (go_simp; done) | (go_simp; rfl)); intro w11 hw; have hg : wr.grownBy w11 (some go9) := (by rw [hw]; exact HP10.2); have hp_ : Kd.R (Kd.int .i64) 2 w11 w.heap.size (fun _ => True) (.slice (some ⟨go9, 0, none⟩) x3_1.length co9) y363 := (by rw [hw, Ny363.out]; exact HP10.1); clear HP10; have n0_ := Azq.mk (hp_); have n1_ := Azq.mk ((by rw [hw]; exact wsq (HB.out) GB9.out : Below w.heap.size w w11)); clear HO_3; clear HB; have HO_3 := n0_; have HB := n1_; clear n0_ n1_; clear hg hw hp_))
        go_roundg k1
        case measure => have := HK1.out; omega
        case rel => exact ⟨(y363), (wrap64 (x4_1 + 1)), (by first | rfl | (simp; done) | (simp [*]; done)), H', ⟨by have := HK1.out; omega⟩, ⟨by (with_reducible repeat (first | apply Kd.R_alloc | apply Kd.R_drewN | apply Kd.R_drew)); exact HO_3.out⟩, ⟨by repeat (first | (with_reducible first | exact HB.out | apply waq | apply wdq | apply wrq) | exact HB.out)⟩⟩
       ·rw [if_neg c8] at H
        exact absurd H (by simp)
      ·rw [if_neg c7] at H
       exact absurd H (by simp)
     ·rw [if_neg c6] at H
      have c6b0 : decide (x4_1 < (l0.length : Int)) = false := decide_eq_false c6
      clear c6
      obtain rfl := Option.some.inj H
      go_wp2
      go_ret
      exact ⟨_, by first | rfl | (simp [errW_none, errW_some] <;> rfl) | (simp [*, errW_none, errW_some] <;> rfl), by (with_reducible repeat (first | apply Kd.R_alloc | apply Kd.R_drewN | apply Kd.R_drew)); exact HO_3.out, by repeat (first | (with_reducible first | exact HB.out | apply waq | apply wdq | apply wrq) | exact HB.out)⟩
  ·rw [if_neg c3] at H
   exact absurd H (by simp)
 ·rw [if_neg c2] at H
  exact absurd H (by simp)
end Go.Proofs.YtjggbalhpflbbaaGreat.PW
end
section
namespace Go.Proofs.YtjggbalhpflbbaaGreat.PW
open Go.RowKit Go.Proofs.YtjggbalhpflbbaaGreatW.PrintWords Go.Proofs.YtjggbalhpflbbaaGreatW.PrintLast Go.Proofs.YtjggbalhpflbbaaGreatW.PrintMore
attribute [local go_sem] max2_int min2_int max_two min_two max_three min_three max_four min_four   -- for this text's walks alone
set_option linter.unusedVariables false
set_option linter.unusedSimpArgs false
def laws_toWhole.f (k : Nat) (a0_0 : Int) (l0_1 : List Int) : Option (Int × List Int) := (laws_toInt64S.f k l0_1).bind fun t367 => (some (a0_0, t367))
theorem laws_toWhole.mono : ∀ a0 a1 k, LeO (laws_toWhole.f k a0 a1) (laws_toWhole.f (k + 1) a0 a1) := by
 intro a0 a1 k
 unfold laws_toWhole.f
 repeat' first
   | (with_reducible exact laws_toInt64S.mono _ _)
   | (with_reducible exact LeO.refl _)
   | (with_reducible exact LeO.none _)
   | (with_reducible refine LeO.ite ?_ ?_)
   | (with_reducible refine LeO.bind ?_ (fun _ => ?_))
   | exact laws_toInt64S.mono _ _
   | exact LeO.none _
   | refine LeO.ite ?_ ?_
   | refine LeO.bind ?_ (fun _ => ?_)
set_option maxHeartbeats 8000000 in
set_option maxRecDepth 100000 in
theorem laws_toWhole.calls (k : Nat) (a0_0 : Int) (A0_1 : Option Addr) (c0_1 : Nat) (l0_1 : List Int) (r1 : Int) (r2 : List Int) (w : World) (hr0_1 : Kd.C (Kd.int .i64) w A0_1 l0_1.length l0_1) (hc0_1 : l0_1.length ≤ c0_1) (h : laws_toWhole.f k a0_0 l0_1 = some (r1, r2)) :
  Calls Tryz.prog 17 #[.agg #[.int .i64 a0_0, .slice A0_1 l0_1.length c0_1]] w fun e w' => ∃ v1_ : Value, e = .returned (.agg #[.int .i64 r1, v1_]) ∧ Kd.R (Kd.int .i64) 2 w' w.heap.size (fun _ => True) v1_ r2 ∧ Below w.heap.size w w' := by
 have hu24 := Tryz.underlying24
 have hu28 := Tryz.underlying28
 have HR0_1 := Azq.mk hr0_1
 have HC0_1 := Azq.mk hc0_1
 clear hr0_1 hc0_1
 have HB := Azq.mk (Below.refl w.heap.size w)
 have H : ((laws_toInt64S.f k l0_1).bind fun t367 => (some (a0_0, t367))) = some (r1, r2) := h
 clear h
 replace H := Option.bind_eq_some_iff.mp H
 obtain ⟨t367, A20, H⟩ := H
 replace H : (some (a0_0, t367)) = some (r1, r2) := H
 have A2 := Azq.mk A20
 clear A20
 simp only [Option.some.injEq, Prod.mk.injEq] at H
 obtain ⟨rfl, rfl⟩ := H
 go_enter Tryz.func17, Tryz.ntmps17
 go_wp2_with (first | ((with_reducible refine gate_dst (N := 1) rfl ?_); refine box_event ?hg (N := 1) ?hd (cs := #[.int .i64 a0_0, .slice A0_1 l0_1.length c0_1]) (t := 24) ?hr ?_; (case hd => rfl); (case hg => rfl); (case hr => first | (go_simp; done) | (go_simp; rfl)); intro gb364 hg w3 hbox hb; have n0_ := Azq.mk (wtq (by repeat (first | (with_reducible first | exact HB.out | apply waq | apply wdq | apply wrq) | exact HB.out)) hb); have n1_ := Azq.mk (hbox); have n2_ := Azq.mk ((by rw [hg]; exact (wzq (by repeat (first | (with_reducible first | exact HB.out | apply waq | apply wdq | apply wrq) | exact HB.out))) : w.heap.size ≤ gb364)); have n3_ := n2_; clear HB; have HB := n0_; have BK364 := n1_; have GW364 := n2_; have GE364 := n3_; clear n0_ n1_ n2_ n3_; clear hb hbox hg) | ((with_reducible refine gate_dst (N := 2) rfl ?_); refine box_event ?hg (N := 2) ?hd (cs := #[.int .i64 0, .slice none 0 0]) (t := 28) ?hr ?_; (case hd => rfl); (case hg => rfl); (case hr => first | (go_simp; done) | (go_simp; rfl)); intro gb365 hg w4 hbox hb; have n0_ := Azq.mk (kbq (g := gb364) (o := .cells #[.int .i64 a0_0, .slice A0_1 l0_1.length c0_1] 24 (0, 0)) (by (with_reducible repeat (first | refine kdq ?_ _ | refine krq ?_ | refine kaq ?_ _)); exact BK364.out) hb); have n1_ := Azq.mk (wtq (by repeat (first | (with_reducible first | exact HB.out | apply waq | apply wdq | apply wrq | refine wsq ?_ GE364.out) | exact HB.out)) hb); have n2_ := Azq.mk (hbox); have n3_ := Azq.mk ((by rw [hg]; exact (wzq (by repeat (first | (with_reducible first | exact HB.out | apply waq | apply wdq | apply wrq | refine wsq ?_ GE364.out) | exact HB.out))) : w.heap.size ≤ gb365)); have n4_ := n3_; have n5_ := Azq.mk ((by rw [hg]; exact Nat.ne_of_lt (klq (g := gb364) (o := .cells #[.int .i64 a0_0, .slice A0_1 l0_1.length c0_1] 24 (0, 0)) (by (with_reducible repeat (first | refine kdq ?_ _ | refine krq ?_ | refine kaq ?_ _)); exact BK364.out)) : gb364 ≠ gb365)); have n6_ := Azq.mk ((by rw [hg]; exact Nat.ne_of_gt (klq (g := gb364) (o := .cells #[.int .i64 a0_0, .slice A0_1 l0_1.length c0_1] 24 (0, 0)) (by (with_reducible repeat (first | refine kdq ?_ _ | refine krq ?_ | refine kaq ?_ _)); exact BK364.out)) : gb365 ≠ gb364)); clear BK364; clear HB; have BK364 := n0_; have HB := n1_; have BK365 := n2_; have GW365 := n3_; have GE365 := n4_; have NB364_365 := n5_; have NB365_364 := n6_; clear n0_ n1_ n2_ n3_ n4_ n5_ n6_; clear hb hbox hg) | ((with_reducible refine gate_dst (N := 3) rfl ?_); refine box_event ?hg (N := 3) ?hd (cs := #[.int .i64 0, .slice none 0 0]) (t := 28) ?hr ?_; (case hd => rfl); (case hg => rfl); (case hr => first | (go_simp; done) | (go_simp; rfl)); intro gb366 hg w5 hbox hb; have n0_ := Azq.mk (kbq (g := gb364) (o := .cells #[.int .i64 a0_0, .slice A0_1 l0_1.length c0_1] 24 (0, 0)) (by (with_reducible repeat (first | refine kdq ?_ _ | refine krq ?_ | refine kaq ?_ _)); exact BK364.out) hb); have n1_ := Azq.mk (kbq (g := gb365) (o := .cells #[.int .i64 0, .slice none 0 0] 28 (0, 0)) (by (with_reducible repeat (first | refine kdq ?_ _ | refine krq ?_ | refine kaq ?_ _)); exact BK365.out) hb); have n2_ := Azq.mk (wtq (by repeat (first | (with_reducible first | exact HB.out | apply waq | apply wdq | apply wrq | refine wsq ?_ GE364.out | refine wsq ?_ GE365.out) | exact HB.out)) hb); have n3_ := Azq.mk (hbox); have n4_ := Azq.mk ((by rw [hg]; exact (wzq (by repeat (first | (with_reducible first | exact HB.out | apply waq | apply wdq | apply wrq | refine wsq ?_ GE364.out | refine wsq ?_ GE365.out) | exact HB.out))) : w.heap.size ≤ gb366)); have n5_ := n4_; have n6_ := Azq.mk ((by rw [hg]; exact Nat.ne_of_lt (klq (g := gb364) (o := .cells #[.int .i64 a0_0, .slice A0_1 l0_1.length c0_1] 24 (0, 0)) (by (with_reducible repeat (first | refine kdq ?_ _ | refine krq ?_ | refine kaq ?_ _)); exact BK364.out)) : gb364 ≠ gb366)); have n7_ := Azq.mk ((by rw [hg]; exact Nat.ne_of_gt (klq (g := gb364) (o := .cells #[.int .i64 a0_0, .slice A0_1 l0_1.length c0_1] 24 (0, 0)) (by (with_reducible repeat (first | refine kdq ?_ _ | refine krq ?_ | refine kaq ?_ _)); exact BK364.out)) : gb366 ≠ gb364)); have n8_ := Azq.mk ((by rw [hg]; exact Nat.ne_of_lt (klq (g := gb365) (o := .cells #[.int .i64 0, .slice none 0 0] 28 (0, 0)) (by (with_reducible repeat (first | refine kdq ?_ _ | refine krq ?_ | refine kaq ?_ _)); exact BK365.out)) : gb365 ≠ gb366)); have n9_ := Azq.mk ((by rw [hg]; exact Nat.ne_of_gt (klq (g := gb365) (o := .cells #[.int .i64 0, .slice none 0 0] 28 (0, 0)) (by (with_reducible repeat (first | refine kdq ?_ _ | refine krq ?_ | refine kaq ?_ _)); exact BK365.out)) : gb366 ≠ gb365)); clear BK364; clear BK365; clear HB; have BK364 := n0_; have BK365 := n1_; have HB := n2_; have BK366 := n3_; have GW366 := n4_; have GE366 := n5_; have NB364_366 := n6_; have NB366_364 := n7_; have NB365_366 := n8_; have NB366_365 := n9_; clear n0_ n1_ n2_ n3_ n4_ n5_ n6_ n7_ n8_ n9_; clear hb hbox hg; have hnb6 := NB364_365.out; have hnc6 := NB365_364.out; have hnb7 := NB364_366.out; have hnc7 := NB366_364.out; have hcz8_0 : w5.cell? ⟨gb364, 0, none⟩ = some (.int .i64 a0_0) := (kcq BK364.out 0).trans rfl; have hcz8_1 : w5.cell? ⟨gb364, 1, none⟩ = some (.slice A0_1 l0_1.length c0_1) := (kcq BK364.out 1).trans rfl; have hfz8_0 := kfq BK364.out 0; have hfz8_1 := kfq BK364.out 1; have hnb9 := NB366_365.out; have hnc9 := NB365_366.out; have hcz10_0 : w5.cell? ⟨gb366, 0, none⟩ = some (.int .i64 0) := (kcq BK366.out 0).trans rfl; have hcz10_1 : w5.cell? ⟨gb366, 1, none⟩ = some (.slice none 0 0) := (kcq BK366.out 1).trans rfl; have hfz10_0 := kfq BK366.out 0; have hfz10_1 := kfq BK366.out 1) | ((with_reducible refine gate_callee (f := 39) rfl ?_); refine goesL_ (some 9) rfl rfl Tryz.func39 (by kernel_rfl) rfl #[.slice A0_1 l0_1.length c0_1] rfl (by (try simp only [List.map_toArray, List.map_cons, List.map_nil]); first | done | rfl | (simp only [List.length_drop, List.length_take]; rfl)) ?_; (with_reducible refine (laws_toInt64S.calls k _ _ l0_1 t367 _ ?side1 ?side2 A2.out).mono ?_); (case side1 => exact Kd.C_below HR0_1.out (by repeat (first | (with_reducible first | exact HB.out | apply waq | apply wdq | apply wrq | refine wsq ?_ GE364.out | refine wsq ?_ GE365.out | refine wsq ?_ GE366.out) | exact HB.out))); (case side2 => exact HC0_1.out); rintro e w11 ⟨v368, rfl, ho0, hb⟩; refine ⟨_, rfl, ?_⟩; have n0_ := Azq.mk (Kd.R_lower ho0 (wzq (by repeat (first | (with_reducible first | exact HB.out | apply waq | apply wdq | apply wrq | refine wsq ?_ GE364.out | refine wsq ?_ GE365.out | refine wsq ?_ GE366.out) | exact HB.out)))); have n1_ := Azq.mk (kbq (g := gb364) (o := .cells #[.int .i64 a0_0, .slice A0_1 l0_1.length c0_1] 24 (0, 0)) (by (with_reducible repeat (first | refine kdq ?_ _ | refine krq ?_ | refine kaq ?_ _)); refine blk_far ?_ NB364_366.out _; (with_reducible repeat (first | refine kdq ?_ _ | refine krq ?_ | refine kaq ?_ _)); exact BK364.out) hb); have n2_ := Azq.mk (kbq (g := gb365) (o := .cells #[.int .i64 0, .slice none 0 0] 28 (0, 0)) (by (with_reducible repeat (first | refine kdq ?_ _ | refine krq ?_ | refine kaq ?_ _)); refine blk_far ?_ NB365_366.out _; (with_reducible repeat (first | refine kdq ?_ _ | refine krq ?_ | refine kaq ?_ _)); exact BK365.out) hb); have n3_ := Azq.mk (kbq (g := gb366) (o := .cells #[.int .i64 a0_0, .slice none 0 0] 28 (0, 0)) (by (with_reducible repeat (first | refine kdq ?_ _ | refine krq ?_ | refine kaq ?_ _)); refine blk_put (cs := #[.int .i64 0, .slice none 0 0]) ?_ 0 _ rfl; (with_reducible repeat (first | refine kdq ?_ _ | refine krq ?_ | refine kaq ?_ _)); exact BK366.out) hb); have n4_ := Azq.mk (wtq (by repeat (first | (with_reducible first | exact HB.out | apply waq | apply wdq | apply wrq | refine wsq ?_ GE364.out | refine wsq ?_ GE365.out | refine wsq ?_ GE366.out) | exact HB.out)) hb); clear BK364; clear BK365; clear BK366; clear HB; have HO369 := n0_; have BK364 := n1_; have BK365 := n2_; have BK366 := n3_; have HB := n4_; clear n0_ n1_ n2_ n3_ n4_; (try clear hb); (try clear hb2); (try clear hk); (try clear hi); (try clear ho0); obtain ⟨Ao12, co12, eo12⟩ := Kd.R_slice HO369.out; subst eo12; have hcz13_0 : w11.cell? ⟨gb366, 0, none⟩ = some (.int .i64 a0_0) := (kcq BK366.out 0).trans rfl; have hcz13_1 : w11.cell? ⟨gb366, 1, none⟩ = some (.slice none 0 0) := (kcq BK366.out 1).trans rfl; have hfz13_0 := kfq BK366.out 0; have hfz13_1 := kfq BK366.out 1; have hcz14_0 : w11.cell? ⟨gb365, 0, none⟩ = some (.int .i64 0) := (kcq BK365.out 0).trans rfl; have hcz14_1 : w11.cell? ⟨gb365, 1, none⟩ = some (.slice none 0 0) := (kcq BK365.out 1).trans rfl; have hfz14_0 := kfq BK365.out 0; have hfz14_1 := kfq BK365.out 1))
 refine bodyPost_ret (results_cell_row rfl _ _ gb365 28 #[.int .i64 a0_0, .slice Ao12 t367.length co12] (0, 0) _ rfl (by (with_reducible repeat (first | refine kdq ?_ _ | refine krq ?_ | refine kaq ?_ _)); refine blk_put (cs := #[.int .i64 a0_0, .slice none 0 0]) ?_ 1 _ rfl; (with_reducible repeat (first | refine kdq ?_ _ | refine krq ?_ | refine kaq ?_ _)); refine blk_put (cs := #[.int .i64 0, .slice none 0 0]) ?_ 0 _ rfl; (with_reducible repeat (first | refine kdq ?_ _ | refine krq ?_ | refine kaq ?_ _)); refine blk_far ?_ NB365_366.out _; (with_reducible repeat (first | refine kdq ?_ _ | refine krq ?_ | refine kaq ?_ _)); exact BK365.out) Tryz.underlying28 rfl (by kernel_rfl)) rfl ?_
 exact ⟨_, by first | rfl | (simp [errW_none, errW_some] <;> rfl) | (simp [*, errW_none, errW_some] <;> rfl), by (with_reducible repeat (first | apply Kd.R_alloc | apply Kd.R_drewN | apply Kd.R_drew)); exact Kd.R_mono (Kd.R_far (p := ⟨gb365, 1, none⟩) (Kd.R_far (p := ⟨gb365, 0, none⟩) (Kd.R_far (p := ⟨gb366, 1, none⟩) (Kd.R_types (Kd.R_types HO369.out BK366.out (by decide)) BK365.out (by decide)) (fun _ hk => hk.1.2) (.slice Ao12 t367.length co12)) (fun _ hk => hk.2) (.int .i64 a0_0)) (fun _ hk => hk.2) (.slice Ao12 t367.length co12)) (fun _ hk => trivial), by repeat (first | (with_reducible first | exact HB.out | apply waq | apply wdq | apply wrq | refine wsq ?_ GE364.out | refine wsq ?_ GE365.out | refine wsq ?_ GE366.out) | exact HB.out)⟩
end Go.Proofs.YtjggbalhpflbbaaGreat.PW
end
section
namespace Go.Proofs.YtjggbalhpflbbaaGreat.PW
open Go.RowKit Go.Proofs.YtjggbalhpflbbaaGreatW.PrintWords Go.Proofs.YtjggbalhpflbbaaGreatW.PrintLast Go.Proofs.YtjggbalhpflbbaaGreatW.PrintMore
attribute [local go_sem] max2_int min2_int max_two min_two max_three min_three max_four min_four   -- for this text's walks alone
set_option linter.unusedVariables false
set_option linter.unusedSimpArgs false
def laws_eqInt64S.l0 : Nat → List Int → List Int → Int → Option (Bool)
 | 0, _, _, _ => none
 | k + 1, x0, x1, x5 => if x5 < (x0.length : Int) then (if 0 ≤ x5 then (if x5 < (x1.length : Int) then (if (rd x0 x5) = (rd x1 x5) then (laws_eqInt64S.l0 k x0 x1 (wrap64 (x5 + 1))) else (some false)) else (none)) else (none)) else (some true)
def laws_eqInt64S.f (k : Nat) (l0 : List Int) (l1 : List Int) : Option (Bool) := if (l0.length : Int) = (l1.length : Int) then (laws_eqInt64S.l0 k l0 l1 0) else (some false)
theorem laws_eqInt64S.mono_l : ∀ k, (∀ y0 y1 y2, LeO (laws_eqInt64S.l0 k y0 y1 y2) (laws_eqInt64S.l0 (k + 1) y0 y1 y2))
 | 0 => fun _ _ _ r h => by simp [laws_eqInt64S.l0] at h
 | k + 1 => by
  have ih0 := laws_eqInt64S.mono_l k
  ·intro y0 y1 y2
   unfold laws_eqInt64S.l0
   repeat' first
   | (with_reducible exact ih0 _ _ _)
   | (with_reducible exact LeO.refl _)
   | (with_reducible exact LeO.none _)
   | (with_reducible refine LeO.ite ?_ ?_)
   | (with_reducible refine LeO.bind ?_ (fun _ => ?_))
   | exact ih0 _ _ _
   | exact LeO.none _
   | refine LeO.ite ?_ ?_
   | refine LeO.bind ?_ (fun _ => ?_)
theorem laws_eqInt64S.mono : ∀ a0 a1 k, LeO (laws_eqInt64S.f k a0 a1) (laws_eqInt64S.f (k + 1) a0 a1) := by
 intro a0 a1 k
 have ih0 := laws_eqInt64S.mono_l k
 unfold laws_eqInt64S.f
 repeat' first
   | (with_reducible exact ih0 _ _ _)
   | (with_reducible exact LeO.refl _)
   | (with_reducible exact LeO.none _)
   | (with_reducible refine LeO.ite ?_ ?_)
   | (with_reducible refine LeO.bind ?_ (fun _ => ?_))
   | exact ih0 _ _ _
   | exact LeO.none _
   | refine LeO.ite ?_ ?_
   | refine LeO.bind ?_ (fun _ => ?_)
set_option maxHeartbeats 8000000 in
set_option maxRecDepth 100000 in
theorem laws_eqInt64S.calls (k : Nat) (A0 : Option Addr) (c0 : Nat) (l0 : List Int) (A1 : Option Addr) (c1 : Nat) (l1 : List Int) (r : Bool) (w : World) (hr0 : Kd.C (Kd.int .i64) w A0 l0.length l0) (hc0 : l0.length ≤ c0) (hr1 : Kd.C (Kd.int .i64) w A1 l1.length l1) (hc1 : l1.length ≤ c1) (h : laws_eqInt64S.f k l0 l1 = some r) :
  Calls Tryz.prog 50 #[.slice A0 l0.length c0, .slice A1 l1.length c1] w fun e w' => e = .returned (.bool r) ∧ Drawn0 w w' := by
 have HR0 := Azq.mk hr0
 have HC0 := Azq.mk hc0
 clear hr0 hc0
 have HR1 := Azq.mk hr1
 have HC1 := Azq.mk hc1
 clear hr1 hc1
 have H : (if (l0.length : Int) = (l1.length : Int) then (laws_eqInt64S.l0 k l0 l1 0) else (some false)) = some r := h
 clear h
 by_cases c3 : (l0.length : Int) = (l1.length : Int)
 ·rw [if_pos c3] at H
  have c3b0 : ((l0.length : Int) == (l1.length : Int)) = true := beq_iff_eq.mpr c3
  have c3b1 : ((l0.length : Int) != (l1.length : Int)) = false := bne_eq_false_iff_eq.mpr c3
  have c3b2 : (l0.length == l1.length) = true := by first | simpa using c3 | (simp at c3 ⊢; omega)
  clear c3
  have H' := Azq.mk H
  clear H
  go_enter Tryz.func50, Tryz.ntmps50
  go_wp2
  repeat (go_quiet (fail); try go_wp2)
  go_loopg [5] k (fun kq v5 w' => ∃ (x5_1 : Int), v5 = .int .i64 x5_1 ∧ Azq (laws_eqInt64S.l0 kq l0 l1 x5_1 = some r) ∧ Azq (kq ≤ k) ∧ Drawn0 w w')
  case atStart => exact ⟨(0), (by first | rfl | (simp; done) | (simp [*]; done)), H', ⟨Nat.le_refl _⟩, by repeat (first | exact Drawn0.refl _ | apply Drawn0.step)⟩
  case round =>
   clear H'
   try clear c1
   try clear p2
   try clear c3
   try clear c3b0
   try clear c3b1
   try clear c3b2
   obtain ⟨x5_1, rfl, HA, HK1, ⟨m1, rfl⟩⟩ := hrel
   cases gk with
   | zero => exact absurd HA.out (by simp [laws_eqInt64S.l0])
   | succ k1 =>
    have H := HA.out
    clear HA
    simp only [laws_eqInt64S.l0] at H
    by_cases c4 : x5_1 < (l0.length : Int)
    ·rw [if_pos c4] at H
     have c4b0 : decide (x5_1 < (l0.length : Int)) = true := decide_eq_true c4
     clear c4
     by_cases c5 : 0 ≤ x5_1
     ·rw [if_pos c5] at H
      have c5b0 : decide (0 ≤ x5_1) = true := decide_eq_true c5
      clear c5
      by_cases c6 : x5_1 < (l1.length : Int)
      ·rw [if_pos c6] at H
       have c6b0 : decide (x5_1 < (l1.length : Int)) = true := decide_eq_true c6
       clear c6
       by_cases c7 : (rd l0 x5_1) = (rd l1 x5_1)
       ·rw [if_pos c7] at H
        have c7b0 : ((rd l0 x5_1) == (rd l1 x5_1)) = true := beq_iff_eq.mpr c7
        have c7b1 : ((rd l0 x5_1) != (rd l1 x5_1)) = false := bne_eq_false_iff_eq.mpr c7
        clear c7
        have H' := Azq.mk H
        clear H
        have p455 : 0 ≤ (x5_1 : Int) := of_decide_eq_true (by first | (with_reducible assumption) | assumption)
        have q455 : x5_1 < (l0.length : Int) := of_decide_eq_true (by first | (with_reducible assumption) | assumption)
        obtain ⟨ad455, e455, hx455_0⟩ := Kd.at_int HR0.out x5_1 p455 q455
        cases e455
        replace p455 := eq_true p455
        replace q455 := eq_true q455
        have p456 : 0 ≤ (x5_1 : Int) := of_decide_eq_true (by first | (with_reducible assumption) | assumption)
        have q456 : x5_1 < (l1.length : Int) := of_decide_eq_true (by first | (with_reducible assumption) | assumption)
        obtain ⟨ad456, e456, hx456_0⟩ := Kd.at_int HR1.out x5_1 p456 q456
        cases e456
        replace p456 := eq_true p456
        replace q456 := eq_true q456
        go_wp2
        repeat (go_quiet (fail); try go_wp2)
        go_roundg k1
        case measure => have := HK1.out; omega
        case rel => exact ⟨(wrap64 (x5_1 + 1)), (by first | rfl | (simp; done) | (simp [*]; done)), H', ⟨by have := HK1.out; omega⟩, by repeat (first | exact Drawn0.refl _ | apply Drawn0.step)⟩
       ·rw [if_neg c7] at H
        have c7b0 : ((rd l0 x5_1) == (rd l1 x5_1)) = false := beq_eq_false_iff_ne.mpr c7
        have c7b1 : ((rd l0 x5_1) != (rd l1 x5_1)) = true := bne_iff_ne.mpr c7
        obtain rfl := Option.some.inj H
        have p455 : 0 ≤ (x5_1 : Int) := of_decide_eq_true (by first | (with_reducible assumption) | assumption)
        have q455 : x5_1 < (l0.length : Int) := of_decide_eq_true (by first | (with_reducible assumption) | assumption)
        obtain ⟨ad455, e455, hx455_0⟩ := Kd.at_int HR0.out x5_1 p455 q455
        cases e455
        replace p455 := eq_true p455
        replace q455 := eq_true q455
        have p456 : 0 ≤ (x5_1 : Int) := of_decide_eq_true (by first | (with_reducible assumption) | assumption)
        have q456 : x5_1 < (l1.length : Int) := of_decide_eq_true (by first | (with_reducible assumption) | assumption)
        obtain ⟨ad456, e456, hx456_0⟩ := Kd.at_int HR1.out x5_1 p456 q456
        cases e456
        replace p456 := eq_true p456
        replace q456 := eq_true q456
        go_wp2
        repeat (go_quiet (fail); try go_wp2)
        go_ret
        exact ⟨by first | rfl | (simp; done) | (simp [*]; done), by repeat (first | exact Drawn0.refl _ | apply Drawn0.step)⟩
      ·rw [if_neg c6] at H
       exact absurd H (by simp)
     ·rw [if_neg c5] at H
      exact absurd H (by simp)
    ·rw [if_neg c4] at H
     have c4b0 : decide (x5_1 < (l0.length : Int)) = false := decide_eq_false c4
     clear c4
     obtain rfl := Option.some.inj H
     go_wp2
     repeat (go_quiet (fail); try go_wp2)
     go_ret
     exact ⟨by first | rfl | (simp; done) | (simp [*]; done), by repeat (first | exact Drawn0.refl _ | apply Drawn0.step)⟩
 ·rw [if_neg c3] at H
  have c3b0 : ((l0.length : Int) == (l1.length : Int)) = false := beq_eq_false_iff_ne.mpr c3
  have c3b1 : ((l0.length : Int) != (l1.length : Int)) = true := bne_iff_ne.mpr c3
  have c3b2 : (l0.length == l1.length) = false := by first | simpa using c3 | (simp at c3 ⊢; omega)
  obtain rfl := Option.some.inj H
  go_enter Tryz.func50, Tryz.ntmps50
  go_wp2
  repeat (go_quiet (fail); try go_wp2)
  go_ret
  exact ⟨by first | rfl | (simp; done) | (simp [*]; done), by repeat (first | exact Drawn0.refl _ | apply Drawn0.step)⟩
end Go.Proofs.YtjggbalhpflbbaaGreat.PW
end
section
namespace Go.Proofs.YtjggbalhpflbbaaGreat.PW
open Go.RowKit Go.Proofs.YtjggbalhpflbbaaGreatW.PrintWords Go.Proofs.YtjggbalhpflbbaaGreatW.PrintLast Go.Proofs.YtjggbalhpflbbaaGreatW.PrintMore
attribute [local go_sem] max2_int min2_int max_two min_two max_three min_three max_four min_four   -- for this text's walks alone
set_option linter.unusedVariables false
set_option linter.unusedSimpArgs false
def laws_eqWhole.f (k : Nat) (a0_0 : Int) (l0_1 : List Int) (a1_0 : Int) (l1_1 : List Int) : Option (Bool) := if a0_0 = a1_0 then ((laws_eqInt64S.f k l0_1 l1_1).bind fun t459 => (if t459 = true then (some true) else (some false))) else (some false)
theorem laws_eqWhole.mono : ∀ a0 a1 a2 a3 k, LeO (laws_eqWhole.f k a0 a1 a2 a3) (laws_eqWhole.f (k + 1) a0 a1 a2 a3) := by
 intro a0 a1 a2 a3 k
 unfold laws_eqWhole.f
 repeat' first
   | (with_reducible exact laws_eqInt64S.mono _ _ _)
   | (with_reducible exact LeO.refl _)
   | (with_reducible exact LeO.none _)
   | (with_reducible refine LeO.ite ?_ ?_)
   | (with_reducible refine LeO.bind ?_ (fun _ => ?_))
   | exact laws_eqInt64S.mono _ _ _
   | exact LeO.none _
   | refine LeO.ite ?_ ?_
   | refine LeO.bind ?_ (fun _ => ?_)
set_option maxHeartbeats 8000000 in
set_option maxRecDepth 100000 in
theorem laws_eqWhole.calls (k : Nat) (a0_0 : Int) (A0_1 : Option Addr) (c0_1 : Nat) (l0_1 : List Int) (a1_0 : Int) (A1_1 : Option Addr) (c1_1 : Nat) (l1_1 : List Int) (r : Bool) (w : World) (hr0_1 : Kd.C (Kd.int .i64) w A0_1 l0_1.length l0_1) (hc0_1 : l0_1.length ≤ c0_1) (hr1_1 : Kd.C (Kd.int .i64) w A1_1 l1_1.length l1_1) (hc1_1 : l1_1.length ≤ c1_1) (h : laws_eqWhole.f k a0_0 l0_1 a1_0 l1_1 = some r) :
  Calls Tryz.prog 23 #[.agg #[.int .i64 a0_0, .slice A0_1 l0_1.length c0_1], .agg #[.int .i64 a1_0, .slice A1_1 l1_1.length c1_1]] w fun e w' => e = .returned (.bool r) ∧ Below w.heap.size w w' := by
 have hu28 := Tryz.underlying28
 have HR0_1 := Azq.mk hr0_1
 have HC0_1 := Azq.mk hc0_1
 clear hr0_1 hc0_1
 have HR1_1 := Azq.mk hr1_1
 have HC1_1 := Azq.mk hc1_1
 clear hr1_1 hc1_1
 have HB := Azq.mk (Below.refl w.heap.size w)
 have H : (if a0_0 = a1_0 then ((laws_eqInt64S.f k l0_1 l1_1).bind fun t459 => (if t459 = true then (some true) else (some false))) else (some false)) = some r := h
 clear h
 by_cases c3 : a0_0 = a1_0
 ·rw [if_pos c3] at H
  have c3b0 : (a0_0 == a1_0) = true := beq_iff_eq.mpr c3
  have c3b1 : (a0_0 != a1_0) = false := bne_eq_false_iff_eq.mpr c3
  clear c3
  replace H := Option.bind_eq_some_iff.mp H
  obtain ⟨t459, A40, H⟩ := H
  replace H : (if t459 = true then (some true) else (some false)) = some r := H
  have A4 := Azq.mk A40
  clear A40
  by_cases c5 : t459 = true
  ·subst c5
   have H1 : (some true) = some r := by rw [if_pos rfl] at H; exact H
   clear H
   have H := H1
   clear H1
   obtain rfl := Option.some.inj H
   go_enter Tryz.func23, Tryz.ntmps23
   go_wp2_with (first | ((with_reducible refine gate_dst (N := 2) rfl ?_); refine box_event ?hg (N := 2) ?hd (cs := #[.int .i64 a0_0, .slice A0_1 l0_1.length c0_1]) (t := 28) ?hr ?_; (case hd => rfl); (case hg => rfl); (case hr => first | (go_simp; done) | (go_simp; rfl)); intro gb457 hg w6 hbox hb; have n0_ := Azq.mk (wtq (by repeat (first | (with_reducible first | exact HB.out | apply waq | apply wdq | apply wrq) | exact HB.out)) hb); have n1_ := Azq.mk (hbox); have n2_ := Azq.mk ((by rw [hg]; exact (wzq (by repeat (first | (with_reducible first | exact HB.out | apply waq | apply wdq | apply wrq) | exact HB.out))) : w.heap.size ≤ gb457)); have n3_ := n2_; clear HB; have HB := n0_; have BK457 := n1_; have GW457 := n2_; have GE457 := n3_; clear n0_ n1_ n2_ n3_; clear hb hbox hg) | ((with_reducible refine gate_dst (N := 3) rfl ?_); refine box_event ?hg (N := 3) ?hd (cs := #[.int .i64 a1_0, .slice A1_1 l1_1.length c1_1]) (t := 28) ?hr ?_; (case hd => rfl); (case hg => rfl); (case hr => first | (go_simp; done) | (go_simp; rfl)); intro gb458 hg w7 hbox hb; have n0_ := Azq.mk (kbq (g := gb457) (o := .cells #[.int .i64 a0_0, .slice A0_1 l0_1.length c0_1] 28 (0, 0)) (by (with_reducible repeat (first | refine kdq ?_ _ | refine krq ?_ | refine kaq ?_ _)); exact BK457.out) hb); have n1_ := Azq.mk (wtq (by repeat (first | (with_reducible first | exact HB.out | apply waq | apply wdq | apply wrq | refine wsq ?_ GE457.out) | exact HB.out)) hb); have n2_ := Azq.mk (hbox); have n3_ := Azq.mk ((by rw [hg]; exact (wzq (by repeat (first | (with_reducible first | exact HB.out | apply waq | apply wdq | apply wrq | refine wsq ?_ GE457.out) | exact HB.out))) : w.heap.size ≤ gb458)); have n4_ := n3_; have n5_ := Azq.mk ((by rw [hg]; exact Nat.ne_of_lt (klq (g := gb457) (o := .cells #[.int .i64 a0_0, .slice A0_1 l0_1.length c0_1] 28 (0, 0)) (by (with_reducible repeat (first | refine kdq ?_ _ | refine krq ?_ | refine kaq ?_ _)); exact BK457.out)) : gb457 ≠ gb458)); have n6_ := Azq.mk ((by rw [hg]; exact Nat.ne_of_gt (klq (g := gb457) (o := .cells #[.int .i64 a0_0, .slice A0_1 l0_1.length c0_1] 28 (0, 0)) (by (with_reducible repeat (first | refine kdq ?_ _ | refine krq ?_ | refine kaq ?_ _)); exact BK457.out)) : gb458 ≠ gb457)); clear BK457; clear HB; have BK457 := n0_; have HB := n1_; have BK458 := n2_; have GW458 := n3_; have GE458 := n4_; have NB457_458 := n5_; have NB458_457 := n6_; clear n0_ n1_ n2_ n3_ n4_ n5_ n6_; clear hb hbox hg; have hnb8 := NB457_458.out; have hnc8 := NB458_457.out; have hcz9_0 : w7.cell? ⟨gb457, 0, none⟩ = some (.int .i64 a0_0) := (kcq BK457.out 0).trans rfl; have hcz9_1 : w7.cell? ⟨gb457, 1, none⟩ = some (.slice A0_1 l0_1.length c0_1) := (kcq BK457.out 1).trans rfl; have hfz9_0 := kfq BK457.out 0; have hfz9_1 := kfq BK457.out 1; have hcz10_0 : w7.cell? ⟨gb458, 0, none⟩ = some (.int .i64 a1_0) := (kcq BK458.out 0).trans rfl; have hcz10_1 : w7.cell? ⟨gb458, 1, none⟩ = some (.slice A1_1 l1_1.length c1_1) := (kcq BK458.out 1).trans rfl; have hfz10_0 := kfq BK458.out 0; have hfz10_1 := kfq BK458.out 1) | ((with_reducible refine gate_callee (f := 50) rfl ?_); refine goesL_ (some 14) rfl rfl Tryz.func50 (by kernel_rfl) rfl #[.slice A0_1 l0_1.length c0_1, .slice A1_1 l1_1.length c1_1] rfl (by (try simp only [List.map_toArray, List.map_cons, List.map_nil]); first | done | rfl | (simp only [List.length_drop, List.length_take]; rfl)) ?_; (with_reducible refine (laws_eqInt64S.calls k _ _ l0_1 _ _ l1_1 true _ ?side1 ?side2 ?side3 ?side4 A4.out).mono ?_); (case side1 => repeat (first | exact (Kd.C_below HR0_1.out HB.out) | (with_reducible refine Kd.C_alloc ?_ _) | (with_reducible refine Kd.C_drewN ?_ _) | (with_reducible refine Kd.C_drew ?_))); (case side2 => exact HC0_1.out); (case side3 => repeat (first | exact (Kd.C_below HR1_1.out HB.out) | (with_reducible refine Kd.C_alloc ?_ _) | (with_reducible refine Kd.C_drewN ?_ _) | (with_reducible refine Kd.C_drew ?_))); (case side4 => exact HC1_1.out); rintro e w' ⟨rfl, ⟨nd, rfl⟩⟩; refine ⟨_, rfl, ?_⟩))
   go_ret
   exact ⟨by first | rfl | (simp [errW_none, errW_some] <;> rfl) | (simp [*, errW_none, errW_some] <;> rfl), by repeat (first | (with_reducible first | exact HB.out | apply waq | apply wdq | apply wrq | refine wsq ?_ GE457.out | refine wsq ?_ GE458.out) | exact HB.out)⟩
  ·replace c5 := Bool.eq_false_iff.mpr c5
   subst c5
   have H1 : (some false) = some r := by rw [if_neg (show ¬ (false = true) by decide)] at H; exact H
   clear H
   have H := H1
   clear H1
   obtain rfl := Option.some.inj H
   go_enter Tryz.func23, Tryz.ntmps23
   go_wp2_with (first | ((with_reducible refine gate_dst (N := 2) rfl ?_); refine box_event ?hg (N := 2) ?hd (cs := #[.int .i64 a0_0, .slice A0_1 l0_1.length c0_1]) (t := 28) ?hr ?_; (case hd => rfl); (case hg => rfl); (case hr => first | (go_simp; done) | (go_simp; rfl)); intro gb457 hg w11 hbox hb; have n0_ := Azq.mk (wtq (by repeat (first | (with_reducible first | exact HB.out | apply waq | apply wdq | apply wrq) | exact HB.out)) hb); have n1_ := Azq.mk (hbox); have n2_ := Azq.mk ((by rw [hg]; exact (wzq (by repeat (first | (with_reducible first | exact HB.out | apply waq | apply wdq | apply wrq) | exact HB.out))) : w.heap.size ≤ gb457)); have n3_ := n2_; clear HB; have HB := n0_; have BK457 := n1_; have GW457 := n2_; have GE457 := n3_; clear n0_ n1_ n2_ n3_; clear hb hbox hg) | ((with_reducible refine gate_dst (N := 3) rfl ?_); refine box_event ?hg (N := 3) ?hd (cs := #[.int .i64 a1_0, .slice A1_1 l1_1.length c1_1]) (t := 28) ?hr ?_; (case hd => rfl); (case hg => rfl); (case hr => first | (go_simp; done) | (go_simp; rfl)); intro gb458 hg w12 hbox hb; have n0_ := Azq.mk (kbq (g := gb457) (o := .cells #[.int .i64 a0_0, .slice A0_1 l0_1.length c0_1] 28 (0, 0)) (by (with_reducible repeat (first | refine kdq ?_ _ | refine krq ?_ | refine kaq ?_ _)); exact BK457.out) hb); have n1_ := Azq.mk (wtq (by repeat (first | (with_reducible first | exact HB.out | apply waq | apply wdq | apply wrq | refine wsq ?_ GE457.out) | exact HB.out)) hb); have n2_ := Azq.mk (hbox); have n3_ := Azq.mk ((by rw [hg]; exact (wzq (by repeat (first | (with_reducible first | exact HB.out | apply waq | apply wdq | apply wrq | refine wsq ?_ GE457.out) | exact HB.out))) : w.heap.size ≤ gb458)); have n4_ := n3_; have n5_ := Azq.mk ((by rw [hg]; exact Nat.ne_of_lt (klq (g := gb457) (o := .cells #[.int .i64 a0_0, .slice A0_1 l0_1.length c0_1] 28 (0, 0)) (by (with_reducible repeat (first | refine kdq ?_ _ | refine krq ?_ | refine kaq ?_ _)); exact BK457.out)) : gb457 ≠ gb458)); have n6_ := Azq.mk ((by rw [hg]; exact Nat.ne_of_gt (klq (g := gb457) (o := .cells #[.int .i64 a0_0, .slice A0_1 l0_1.length c0_1] 28 (0, 0)) (by (with_reducible repeat (first | refine kdq ?_ _ | refine krq ?_ | refine kaq ?_ _)); exact BK457.out)) : gb458 ≠ gb457)); clear BK457; clear HB; have BK457 := n0_; have HB := n1_; have BK458 := n2_; have GW458 := n3_; have GE458 := n4_; have NB457_458 := n5_; have NB458_457 := n6_; clear n0_ n1_ n2_ n3_ n4_ n5_ n6_; clear hb hbox hg; have hnb13 := NB457_458.out; have hnc13 := NB458_457.out; have hcz14_0 : w12.cell? ⟨gb457, 0, none⟩ = some (.int .i64 a0_0) := (kcq BK457.out 0).trans rfl; have hcz14_1 : w12.cell? ⟨gb457, 1, none⟩ = some (.slice A0_1 l0_1.length c0_1) := (kcq BK457.out 1).trans rfl; have hfz14_0 := kfq BK457.out 0; have hfz14_1 := kfq BK457.out 1; have hcz15_0 : w12.cell? ⟨gb458, 0, none⟩ = some (.int .i64 a1_0) := (kcq BK458.out 0).trans rfl; have hcz15_1 : w12.cell? ⟨gb458, 1, none⟩ = some (.slice A1_1 l1_1.length c1_1) := (kcq BK458.out 1).trans rfl; have hfz15_0 := kfq BK458.out 0; have hfz15_1 := kfq BK458.out 1) | ((with_reducible refine gate_callee (f := 50) rfl ?_); refine goesL_ (some 14) rfl rfl Tryz.func50 (by kernel_rfl) rfl #[.slice A0_1 l0_1.length c0_1, .slice A1_1 l1_1.length c1_1] rfl (by (try simp only [List.map_toArray, List.map_cons, List.map_nil]); first | done | rfl | (simp only [List.length_drop, List.length_take]; rfl)) ?_; (with_reducible refine (laws_eqInt64S.calls k _ _ l0_1 _ _ l1_1 false _ ?side1 ?side2 ?side3 ?side4 A4.out).mono ?_); (case side1 => repeat (first | exact (Kd.C_below HR0_1.out HB.out) | (with_reducible refine Kd.C_alloc ?_ _) | (with_reducible refine Kd.C_drewN ?_ _) | (with_reducible refine Kd.C_drew ?_))); (case side2 => exact HC0_1.out); (case side3 => repeat (first | exact (Kd.C_below HR1_1.out HB.out) | (with_reducible refine Kd.C_alloc ?_ _) | (with_reducible refine Kd.C_drewN ?_ _) | (with_reducible refine Kd.C_drew ?_))); (case side4 => exact HC1_1.out); rintro e w' ⟨rfl, ⟨nd, rfl⟩⟩; refine ⟨_, rfl, ?_⟩))
   go_ret
   exact ⟨by first | rfl | (simp [errW_none, errW_some] <;> rfl) | (simp [*, errW_none, errW_some] <;> rfl), by repeat (first | (with_reducible first | exact HB.out | apply waq | apply wdq | apply wrq | refine wsq ?_ GE457.out | refine wsq ?_ GE458.out) | exact HB.out)⟩
 ·rw [if_neg c3] at H
  have c3b0 : (a0_0 == a1_0) = false := beq_eq_false_iff_ne.mpr c3
  have c3b1 : (a0_0 != a1_0) = true := bne_iff_ne.mpr c3
  obtain rfl := Option.some.inj H
  go_enter Tryz.func23, Tryz.ntmps23
  go_wp2_with (first | ((with_reducible refine gate_dst (N := 2) rfl ?_); refine box_event ?hg (N := 2) ?hd (cs := #[.int .i64 a0_0, .slice A0_1 l0_1.length c0_1]) (t := 28) ?hr ?_; (case hd => rfl); (case hg => rfl); (case hr => first | (go_simp; done) | (go_simp; rfl)); intro gb457 hg w16 hbox hb; have n0_ := Azq.mk (wtq (by repeat (first | (with_reducible first | exact HB.out | apply waq | apply wdq | apply wrq) | exact HB.out)) hb); have n1_ := Azq.mk (hbox); have n2_ := Azq.mk ((by rw [hg]; exact (wzq (by repeat (first | (with_reducible first | exact HB.out | apply waq | apply wdq | apply wrq) | exact HB.out))) : w.heap.size ≤ gb457)); have n3_ := n2_; clear HB; have HB := n0_; have BK457 := n1_; have GW457 := n2_; have GE457 := n3_; clear n0_ n1_ n2_ n3_; clear hb hbox hg) | ((with_reducible refine gate_dst (N := 3) rfl ?_); refine box_event ?hg (N := 3) ?hd (cs := #[.int .i64 a1_0, .slice A1_1 l1_1.length c1_1]) (t := 28) ?hr ?_; (case hd => rfl); (case hg => rfl); (case hr => first | (go_simp; done) | (go_simp; rfl)); intro gb458 hg w17 hbox hb; have n0_ := Azq.mk (kbq (g := gb457) (o := .cells #[.int .i64 a0_0, .slice A0_1 l0_1.length c0_1] 28 (0, 0)) (by (with_reducible repeat (first | refine kdq ?_ _ | refine krq ?_ | refine kaq ?_ _)); exact BK457.out) hb); have n1_ := Azq.mk (wtq (by repeat (first | (with_reducible first | exact HB.out | apply waq | apply wdq | apply wrq | refine wsq ?_ GE457.out) | exact HB.out)) hb); have n2_ := Azq.mk (hbox); have n3_ := Azq.mk ((by rw [hg]; exact (wzq (by repeat (first | (with_reducible first | exact HB.out | apply waq | apply wdq | apply wrq | refine wsq ?_ GE457.out) | exact HB.out))) : w.heap.size ≤ gb458)); have n4_ := n3_; have n5_ := Azq.mk ((by rw [hg]; exact Nat.ne_of_lt (klq (g := gb457) (o := .cells #[.int .i64 a0_0, .slice A0_1 l0_1.length c0_1] 28 (0, 0)) (by (with_reducible repeat (first | refine kdq ?_ _ | refine krq ?_ | refine kaq ?_ _)); exact BK457.out)) : gb457 ≠ gb458)); have n6_ := Azq.mk ((by rw [hg]; exact Nat.ne_of_gt (klq (g := gb457) (o := .cells #[.int .i64 a0_0, .slice A0_1 l0_1.length c0_1] 28 (0, 0)) (by (with_reducible repeat (first | refine kdq ?_ _ | refine krq ?_ | refine kaq ?_ _)); exact BK457.out)) : gb458 ≠ gb457)); clear BK457; clear HB; have BK457 := n0_; have HB := n1_; have BK458 := n2_; have GW458 := n3_; have GE458 := n4_; have NB457_458 := n5_; have NB458_457 := n6_; clear n0_ n1_ n2_ n3_ n4_ n5_ n6_; clear hb hbox hg; have hnb18 := NB457_458.out; have hnc18 := NB458_457.out; have hcz19_0 : w17.cell? ⟨gb457, 0, none⟩ = some (.int .i64 a0_0) := (kcq BK457.out 0).trans rfl; have hcz19_1 : w17.cell? ⟨gb457, 1, none⟩ = some (.slice A0_1 l0_1.length c0_1) := (kcq BK457.out 1).trans rfl; have hfz19_0 := kfq BK457.out 0; have hfz19_1 := kfq BK457.out 1; have hcz20_0 : w17.cell? ⟨gb458, 0, none⟩ = some (.int .i64 a1_0) := (kcq BK458.out 0).trans rfl; have hcz20_1 : w17.cell? ⟨gb458, 1, none⟩ = some (.slice A1_1 l1_1.length c1_1) := (kcq BK458.out 1).trans rfl; have hfz20_0 := kfq BK458.out 0; have hfz20_1 := kfq BK458.out 1))
  go_ret
  exact ⟨by first | rfl | (simp [errW_none, errW_some] <;> rfl) | (simp [*, errW_none, errW_some] <;> rfl), by repeat (first | (with_reducible first | exact HB.out | apply waq | apply wdq | apply wrq | refine wsq ?_ GE457.out | refine wsq ?_ GE458.out) | exact HB.out)⟩
end Go.Proofs.YtjggbalhpflbbaaGreat.PW
end
section
namespace Go.Proofs.YtjggbalhpflbbaaGreat.PW
open Go.RowKit Go.Proofs.YtjggbalhpflbbaaGreatW.PrintWords Go.Proofs.YtjggbalhpflbbaaGreatW.PrintLast Go.Proofs.YtjggbalhpflbbaaGreatW.PrintMore
attribute [local go_sem] max2_int min2_int max_two min_two max_three min_three max_four min_four   -- for this text's walks alone
set_option linter.unusedVariables false
set_option linter.unusedSimpArgs false
def spec_l01In.f (a0 : Int) (a1 : Int) (a2 : Int) : Option (Bool) := if a0 ≥ a1 then (some (decide (a0 ≤ a2))) else (some false)
set_option maxHeartbeats 8000000 in
set_option maxRecDepth 100000 in
theorem spec_l01In.calls (a0 : Int) (a1 : Int) (a2 : Int) (r : Bool) (w : World) (h : spec_l01In.f a0 a1 a2 = some r) :
  Calls Tryz.prog 54 #[.int .i64 a0, .int .i64 a1, .int .i64 a2] w fun e w' => e = .returned (.bool r) ∧ Drawn0 w w' := by
 have H : (if a0 ≥ a1 then (some (decide (a0 ≤ a2))) else (some false)) = some r := h
 clear h
 by_cases c4 : a0 ≥ a1
 ·rw [if_pos c4] at H
  have c4b0 : decide (a1 ≤ a0) = true := decide_eq_true c4
  clear c4
  obtain rfl := Option.some.inj H
  go_enter Tryz.func54, Tryz.ntmps54
  go_wp2
  go_ret
  exact ⟨by first | rfl | (simp; done) | (simp [*]; done), by repeat (first | exact Drawn0.refl _ | apply Drawn0.step)⟩
 ·rw [if_neg c4] at H
  have c4b0 : decide (a1 ≤ a0) = false := decide_eq_false c4
  clear c4
  obtain rfl := Option.some.inj H
  go_enter Tryz.func54, Tryz.ntmps54
  go_wp2
  go_ret
  exact ⟨by first | rfl | (simp; done) | (simp [*]; done), by repeat (first | exact Drawn0.refl _ | apply Drawn0.step)⟩
end Go.Proofs.YtjggbalhpflbbaaGreat.PW
end
section
namespace Go.Proofs.YtjggbalhpflbbaaGreat.PW
open Go.RowKit Go.Proofs.YtjggbalhpflbbaaGreatW.PrintWords Go.Proofs.YtjggbalhpflbbaaGreatW.PrintLast Go.Proofs.YtjggbalhpflbbaaGreatW.PrintMore
attribute [local go_sem] max2_int min2_int max_two min_two max_three min_three max_four min_four   -- for this text's walks alone
set_option linter.unusedVariables false
set_option linter.unusedSimpArgs false
def spec_l02Is.l0 : Nat → Int → Int → Int → List Int → Option (Bool)
 | 0, _, _, _, _ => none
 | k + 1, x3, x4, x106000, x106001 => if x4 < x3 then (if 0 ≤ x4 then (if x4 < (x106001.length : Int) then ((spec_l01In.f (rd x106001 x4) 0 16777215).bind fun t107 => (if t107 = true then (spec_l02Is.l0 k x3 (wrap64 (x4 + 1)) x106000 x106001) else (some false))) else (none)) else (none)) else (if x3 = 0 then (some (x106000 == 0)) else (if x3 ≤ 100 then (if 0 ≤ (wrap64 (x3 - 1)) then (if (wrap64 (x3 - 1)) < (x106001.length : Int) then (if (rd x106001 (wrap64 (x3 - 1))) = 0 then (some false) else (if x106000 = 1 then (some true) else (some (x106000 == (-1))))) else (none)) else (none)) else (some false)))
def spec_l02Is.f (k : Nat) (a0_0 : Int) (l0_1 : List Int) : Option (Bool) := spec_l02Is.l0 k (l0_1.length : Int) 0 a0_0 l0_1
theorem spec_l02Is.mono_l : ∀ k, (∀ y0 y1 y2 y3, LeO (spec_l02Is.l0 k y0 y1 y2 y3) (spec_l02Is.l0 (k + 1) y0 y1 y2 y3))
 | 0 => fun _ _ _ _ r h => by simp [spec_l02Is.l0] at h
 | k + 1 => by
  have ih0 := spec_l02Is.mono_l k
  ·intro y0 y1 y2 y3
   unfold spec_l02Is.l0
   repeat' first
   | (with_reducible exact ih0 _ _ _ _)
   | (with_reducible exact LeO.refl _)
   | (with_reducible exact LeO.none _)
   | (with_reducible refine LeO.ite ?_ ?_)
   | (with_reducible refine LeO.bind ?_ (fun _ => ?_))
   | exact ih0 _ _ _ _
   | exact LeO.none _
   | refine LeO.ite ?_ ?_
   | refine LeO.bind ?_ (fun _ => ?_)
theorem spec_l02Is.mono : ∀ a0 a1 k, LeO (spec_l02Is.f k a0 a1) (spec_l02Is.f (k + 1) a0 a1) := by
 intro a0 a1 k
 have ih0 := spec_l02Is.mono_l k
 unfold spec_l02Is.f
 repeat' first
   | (with_reducible exact ih0 _ _ _ _)
   | (with_reducible exact LeO.refl _)
   | (with_reducible exact LeO.none _)
   | (with_reducible refine LeO.ite ?_ ?_)
   | (with_reducible refine LeO.bind ?_ (fun _ => ?_))
   | exact ih0 _ _ _ _
   | exact LeO.none _
   | refine LeO.ite ?_ ?_
   | refine LeO.bind ?_ (fun _ => ?_)
set_option maxHeartbeats 8000000 in
set_option maxRecDepth 100000 in
theorem spec_l02Is.calls (k : Nat) (a0_0 : Int) (A0_1 : Option Addr) (c0_1 : Nat) (l0_1 : List Int) (r : Bool) (w : World) (hr0_1 : Kd.C (Kd.int .i64) w A0_1 l0_1.length l0_1) (hc0_1 : l0_1.length ≤ c0_1) (h : spec_l02Is.f k a0_0 l0_1 = some r) :
  Calls Tryz.prog 53 #[.agg #[.int .i64 a0_0, .slice A0_1 l0_1.length c0_1]] w fun e w' => e = .returned (.bool r) ∧ Below w.heap.size w w' := by
 have hu28 := Tryz.underlying28
 have HR0_1 := Azq.mk hr0_1
 have HC0_1 := Azq.mk hc0_1
 clear hr0_1 hc0_1
 have HB := Azq.mk (Below.refl w.heap.size w)
 have H : (spec_l02Is.l0 k (l0_1.length : Int) 0 a0_0 l0_1) = some r := h
 clear h
 have H' := Azq.mk H
 clear H
 go_enter Tryz.func53, Tryz.ntmps53
 go_wp2_with (first | ((with_reducible refine gate_dst (N := 1) rfl ?_); refine box_event ?hg (N := 1) ?hd (cs := #[.int .i64 a0_0, .slice A0_1 l0_1.length c0_1]) (t := 28) ?hr ?_; (case hd => rfl); (case hg => rfl); (case hr => first | (go_simp; done) | (go_simp; rfl)); intro gb105 hg w2 hbox hb; have n0_ := Azq.mk (wtq (by repeat (first | (with_reducible first | exact HB.out | apply waq | apply wdq | apply wrq) | exact HB.out)) hb); have n1_ := Azq.mk (hbox); have n2_ := Azq.mk ((by rw [hg]; exact (wzq (by repeat (first | (with_reducible first | exact HB.out | apply waq | apply wdq | apply wrq) | exact HB.out))) : w.heap.size ≤ gb105)); have n3_ := n2_; clear HB; have HB := n0_; have BK105 := n1_; have GW105 := n2_; have GE105 := n3_; clear n0_ n1_ n2_ n3_; clear hb hbox hg; have hcz3_0 : w2.cell? ⟨gb105, 0, none⟩ = some (.int .i64 a0_0) := (kcq BK105.out 0).trans rfl; have hcz3_1 : w2.cell? ⟨gb105, 1, none⟩ = some (.slice A0_1 l0_1.length c0_1) := (kcq BK105.out 1).trans rfl; have hfz3_0 := kfq BK105.out 0; have hfz3_1 := kfq BK105.out 1))
 go_loopg [4] k (fun kq v4 w' => ∃ (x4_1 : Int), v4 = .int .i64 x4_1 ∧ Azq (spec_l02Is.l0 kq (l0_1.length : Int) x4_1 a0_0 l0_1 = some r) ∧ Azq (kq ≤ k) ∧ Azq (w'.heap[gb105]? = some (.cells #[.int .i64 a0_0, (.slice A0_1 l0_1.length c0_1)] 28 (0, 0))) ∧ Azq (Below w.heap.size w w'))
 case atStart => exact ⟨(0), (by first | rfl | (simp; done) | (simp [*]; done)), H', ⟨Nat.le_refl _⟩, ⟨by (with_reducible repeat (first | refine kdq ?_ _ | refine krq ?_ | refine kaq ?_ _)); exact BK105.out⟩, ⟨by repeat (first | (with_reducible first | exact HB.out | apply waq | apply wdq | apply wrq | refine wsq ?_ GE105.out) | exact HB.out)⟩⟩
 case round =>
  clear H'
  try clear p2
  try clear hcz3_0
  try clear hcz3_1
  try clear hfz3_0
  try clear hfz3_1
  obtain ⟨x4_1, rfl, HA, HK1, BK105, HB⟩ := hrel
  cases gk with
  | zero => exact absurd HA.out (by simp [spec_l02Is.l0])
  | succ k1 =>
   have H := HA.out
   clear HA
   simp only [spec_l02Is.l0] at H
   by_cases c4 : x4_1 < (l0_1.length : Int)
   ·rw [if_pos c4] at H
    have c4b0 : decide (x4_1 < (l0_1.length : Int)) = true := decide_eq_true c4
    clear c4
    by_cases c5 : 0 ≤ x4_1
    ·rw [if_pos c5] at H
     have c5b0 : decide (0 ≤ x4_1) = true := decide_eq_true c5
     clear c5
     by_cases c6 : x4_1 < (l0_1.length : Int)
     ·rw [if_pos c6] at H
      have c6b0 : decide (x4_1 < (l0_1.length : Int)) = true := decide_eq_true c6
      clear c6
      replace H := Option.bind_eq_some_iff.mp H
      obtain ⟨t107, A70, H⟩ := H
      replace H : (if t107 = true then (spec_l02Is.l0 k1 (l0_1.length : Int) (wrap64 (x4_1 + 1)) a0_0 l0_1) else (some false)) = some r := H
      have A7 := Azq.mk A70
      clear A70
      by_cases c8 : t107 = true
      ·subst c8
       have H1 : (spec_l02Is.l0 k1 (l0_1.length : Int) (wrap64 (x4_1 + 1)) a0_0 l0_1) = some r := by rw [if_pos rfl] at H; exact H
       clear H
       have H := H1
       clear H1
       have H' := Azq.mk H
       clear H
       have hcz9_0 : wr.cell? ⟨gb105, 0, none⟩ = some (.int .i64 a0_0) := (kcq BK105.out 0).trans rfl
       have hcz9_1 : wr.cell? ⟨gb105, 1, none⟩ = some (.slice A0_1 l0_1.length c0_1) := (kcq BK105.out 1).trans rfl
       have hfz9_0 := kfq BK105.out 0
       have hfz9_1 := kfq BK105.out 1
       have p106 : 0 ≤ (x4_1 : Int) := of_decide_eq_true (by first | (with_reducible assumption) | assumption)
       have q106 : x4_1 < (l0_1.length : Int) := of_decide_eq_true (by first | (with_reducible assumption) | assumption)
       obtain ⟨ad106, e106, hx106_0⟩ := Kd.at_int HR0_1.out x4_1 p106 q106
       cases e106
       replace hx106_0 := (HB.out.cell (World.block_lt_of_cell? w _ hx106_0)).trans hx106_0
       replace p106 := eq_true p106
       replace q106 := eq_true q106
       go_wp2_with (first | ((with_reducible refine gate_callee (f := 54) rfl ?_); refine goesL_ (some 18) rfl rfl Tryz.func54 (by kernel_rfl) rfl #[.int .i64 (rd l0_1 x4_1), .int .i64 0, .int .i64 16777215] rfl (by (try simp only [List.map_toArray, List.map_cons, List.map_nil]); first | done | rfl | (simp only [List.length_drop, List.length_take]; rfl)) ?_; (with_reducible refine (spec_l01In.calls (rd l0_1 x4_1) 0 16777215 true _ A7.out).mono ?_); rintro e w' ⟨rfl, ⟨nd, rfl⟩⟩; refine ⟨_, rfl, ?_⟩))
       go_roundg k1
       case measure => have := HK1.out; omega
       case rel => exact ⟨(wrap64 (x4_1 + 1)), (by first | rfl | (simp; done) | (simp [*]; done)), H', ⟨by have := HK1.out; omega⟩, ⟨by (with_reducible repeat (first | refine kdq ?_ _ | refine krq ?_ | refine kaq ?_ _)); exact BK105.out⟩, ⟨by repeat (first | (with_reducible first | exact HB.out | apply waq | apply wdq | apply wrq | refine wsq ?_ GE105.out) | exact HB.out)⟩⟩
      ·replace c8 := Bool.eq_false_iff.mpr c8
       subst c8
       have H1 : (some false) = some r := by rw [if_neg (show ¬ (false = true) by decide)] at H; exact H
       clear H
       have H := H1
       clear H1
       obtain rfl := Option.some.inj H
       have hcz10_0 : wr.cell? ⟨gb105, 0, none⟩ = some (.int .i64 a0_0) := (kcq BK105.out 0).trans rfl
       have hcz10_1 : wr.cell? ⟨gb105, 1, none⟩ = some (.slice A0_1 l0_1.length c0_1) := (kcq BK105.out 1).trans rfl
       have hfz10_0 := kfq BK105.out 0
       have hfz10_1 := kfq BK105.out 1
       have p106 : 0 ≤ (x4_1 : Int) := of_decide_eq_true (by first | (with_reducible assumption) | assumption)
       have q106 : x4_1 < (l0_1.length : Int) := of_decide_eq_true (by first | (with_reducible assumption) | assumption)
       obtain ⟨ad106, e106, hx106_0⟩ := Kd.at_int HR0_1.out x4_1 p106 q106
       cases e106
       replace hx106_0 := (HB.out.cell (World.block_lt_of_cell? w _ hx106_0)).trans hx106_0
       replace p106 := eq_true p106
       replace q106 := eq_true q106
       go_wp2_with (first | ((with_reducible refine gate_callee (f := 54) rfl ?_); refine goesL_ (some 18) rfl rfl Tryz.func54 (by kernel_rfl) rfl #[.int .i64 (rd l0_1 x4_1), .int .i64 0, .int .i64 16777215] rfl (by (try simp only [List.map_toArray, List.map_cons, List.map_nil]); first | done | rfl | (simp only [List.length_drop, List.length_take]; rfl)) ?_; (with_reducible refine (spec_l01In.calls (rd l0_1 x4_1) 0 16777215 false _ A7.out).mono ?_); rintro e w' ⟨rfl, ⟨nd, rfl⟩⟩; refine ⟨_, rfl, ?_⟩))
       go_ret
       exact ⟨by first | rfl | (simp [errW_none, errW_some] <;> rfl) | (simp [*, errW_none, errW_some] <;> rfl), by repeat (first | (with_reducible first | exact HB.out | apply waq | apply wdq | apply wrq | refine wsq ?_ GE105.out) | exact HB.out)⟩
     ·rw [if_neg c6] at H
      exact absurd H (by simp)
    ·rw [if_neg c5] at H
     exact absurd H (by simp)
   ·rw [if_neg c4] at H
    have c4b0 : decide (x4_1 < (l0_1.length : Int)) = false := decide_eq_false c4
    clear c4
    by_cases c11 : (l0_1.length : Int) = 0
    ·rw [if_pos c11] at H
     have c11b0 : ((l0_1.length : Int) == 0) = true := beq_iff_eq.mpr c11
     have c11b1 : ((l0_1.length : Int) != 0) = false := bne_eq_false_iff_eq.mpr c11
     clear c11
     obtain rfl := Option.some.inj H
     have hcz12_0 : wr.cell? ⟨gb105, 0, none⟩ = some (.int .i64 a0_0) := (kcq BK105.out 0).trans rfl
     have hcz12_1 : wr.cell? ⟨gb105, 1, none⟩ = some (.slice A0_1 l0_1.length c0_1) := (kcq BK105.out 1).trans rfl
     have hfz12_0 := kfq BK105.out 0
     have hfz12_1 := kfq BK105.out 1
     go_wp2
     go_ret
     exact ⟨by first | rfl | (simp [errW_none, errW_some] <;> rfl) | (simp [*, errW_none, errW_some] <;> rfl), by repeat (first | (with_reducible first | exact HB.out | apply waq | apply wdq | apply wrq | refine wsq ?_ GE105.out) | exact HB.out)⟩
    ·rw [if_neg c11] at H
     have c11b0 : ((l0_1.length : Int) == 0) = false := beq_eq_false_iff_ne.mpr c11
     have c11b1 : ((l0_1.length : Int) != 0) = true := bne_iff_ne.mpr c11
     have c11b2 : ¬ (l0_1 = []) := fun h_ => c11 (by rw [h_]; rfl)
     by_cases c13 : (l0_1.length : Int) ≤ 100
     ·rw [if_pos c13] at H
      have c13b0 : decide ((l0_1.length : Int) ≤ 100) = true := decide_eq_true c13
      have c13b1 : decide (l0_1.length ≤ 100) = true := decide_eq_true (by omega)
      clear c13
      obtain ⟨ji14, hji14⟩ : ∃ j_ : Int, (wrap64 ((l0_1.length : Int) - 1)) = j_ := ⟨_, rfl⟩
      replace H : (if 0 ≤ (ji14) then (if (ji14) < (l0_1.length : Int) then (if (rd l0_1 (ji14)) = 0 then (some false) else (if a0_0 = 1 then (some true) else (some (a0_0 == (-1))))) else (none)) else (none)) = some r := by first | (rw [hji14] at H; exact H) | (simp only [hji14] at H ⊢; exact H)
      have hji14w : (IntKind.i64.wrap ((l0_1.length : Int) - 1)) = ji14 := (i64_w _).trans hji14
      by_cases c15 : 0 ≤ (ji14)
      ·rw [if_pos c15] at H
       have c15b0 : decide (0 ≤ (ji14)) = true := decide_eq_true c15
       clear c15
       by_cases c16 : (ji14) < (l0_1.length : Int)
       ·rw [if_pos c16] at H
        have c16b0 : decide ((ji14) < (l0_1.length : Int)) = true := decide_eq_true c16
        clear c16
        by_cases c17 : (rd l0_1 (ji14)) = 0
        ·rw [if_pos c17] at H
         have c17b0 : ((rd l0_1 (ji14)) == 0) = true := beq_iff_eq.mpr c17
         have c17b1 : ((rd l0_1 (ji14)) != 0) = false := bne_eq_false_iff_eq.mpr c17
         clear c17
         obtain rfl := Option.some.inj H
         have hcz18_0 : wr.cell? ⟨gb105, 0, none⟩ = some (.int .i64 a0_0) := (kcq BK105.out 0).trans rfl
         have hcz18_1 : wr.cell? ⟨gb105, 1, none⟩ = some (.slice A0_1 l0_1.length c0_1) := (kcq BK105.out 1).trans rfl
         have hfz18_0 := kfq BK105.out 0
         have hfz18_1 := kfq BK105.out 1
         have p108 : 0 ≤ ((ji14) : Int) := of_decide_eq_true (by first | (with_reducible assumption) | assumption)
         have q108 : (ji14) < (l0_1.length : Int) := of_decide_eq_true (by first | (with_reducible assumption) | assumption)
         obtain ⟨ad108, e108, hx108_0⟩ := Kd.at_int HR0_1.out (ji14) p108 q108
         cases e108
         replace hx108_0 := (HB.out.cell (World.block_lt_of_cell? w _ hx108_0)).trans hx108_0
         replace p108 := eq_true p108
         replace q108 := eq_true q108
         go_wp2
         go_ret
         exact ⟨by first | rfl | (simp [errW_none, errW_some] <;> rfl) | (simp only [← hji14]; first | rfl | (simp [errW_none, errW_some] <;> rfl)) | (simp [*, errW_none, errW_some] <;> rfl), by repeat (first | (with_reducible first | exact HB.out | apply waq | apply wdq | apply wrq | refine wsq ?_ GE105.out) | exact HB.out)⟩
        ·rw [if_neg c17] at H
         have c17b0 : ((rd l0_1 (ji14)) == 0) = false := beq_eq_false_iff_ne.mpr c17
         have c17b1 : ((rd l0_1 (ji14)) != 0) = true := bne_iff_ne.mpr c17
         by_cases c19 : a0_0 = 1
         ·rw [if_pos c19] at H
          have c19b0 : (a0_0 == 1) = true := beq_iff_eq.mpr c19
          have c19b1 : (a0_0 != 1) = false := bne_eq_false_iff_eq.mpr c19
          clear c19
          obtain rfl := Option.some.inj H
          have hcz20_0 : wr.cell? ⟨gb105, 0, none⟩ = some (.int .i64 a0_0) := (kcq BK105.out 0).trans rfl
          have hcz20_1 : wr.cell? ⟨gb105, 1, none⟩ = some (.slice A0_1 l0_1.length c0_1) := (kcq BK105.out 1).trans rfl
          have hfz20_0 := kfq BK105.out 0
          have hfz20_1 := kfq BK105.out 1
          have p108 : 0 ≤ ((ji14) : Int) := of_decide_eq_true (by first | (with_reducible assumption) | assumption)
          have q108 : (ji14) < (l0_1.length : Int) := of_decide_eq_true (by first | (with_reducible assumption) | assumption)
          obtain ⟨ad108, e108, hx108_0⟩ := Kd.at_int HR0_1.out (ji14) p108 q108
          cases e108
          replace hx108_0 := (HB.out.cell (World.block_lt_of_cell? w _ hx108_0)).trans hx108_0
          replace p108 := eq_true p108
          replace q108 := eq_true q108
          go_wp2
          go_ret
          exact ⟨by first | rfl | (simp [errW_none, errW_some] <;> rfl) | (simp only [← hji14]; first | rfl | (simp [errW_none, errW_some] <;> rfl)) | (simp [*, errW_none, errW_some] <;> rfl), by repeat (first | (with_reducible first | exact HB.out | apply waq | apply wdq | apply wrq | refine wsq ?_ GE105.out) | exact HB.out)⟩
         ·rw [if_neg c19] at H
          have c19b0 : (a0_0 == 1) = false := beq_eq_false_iff_ne.mpr c19
          have c19b1 : (a0_0 != 1) = true := bne_iff_ne.mpr c19
          obtain rfl := Option.some.inj H
          have hcz21_0 : wr.cell? ⟨gb105, 0, none⟩ = some (.int .i64 a0_0) := (kcq BK105.out 0).trans rfl
          have hcz21_1 : wr.cell? ⟨gb105, 1, none⟩ = some (.slice A0_1 l0_1.length c0_1) := (kcq BK105.out 1).trans rfl
          have hfz21_0 := kfq BK105.out 0
          have hfz21_1 := kfq BK105.out 1
          have p108 : 0 ≤ ((ji14) : Int) := of_decide_eq_true (by first | (with_reducible assumption) | assumption)
          have q108 : (ji14) < (l0_1.length : Int) := of_decide_eq_true (by first | (with_reducible assumption) | assumption)
          obtain ⟨ad108, e108, hx108_0⟩ := Kd.at_int HR0_1.out (ji14) p108 q108
          cases e108
          replace hx108_0 := (HB.out.cell (World.block_lt_of_cell? w _ hx108_0)).trans hx108_0
          replace p108 := eq_true p108
          replace q108 := eq_true q108
          go_wp2
          go_ret
          exact ⟨by first | rfl | (simp [errW_none, errW_some] <;> rfl) | (simp only [← hji14]; first | rfl | (simp [errW_none, errW_some] <;> rfl)) | (simp [*, errW_none, errW_some] <;> rfl), by repeat (first | (with_reducible first | exact HB.out | apply waq | apply wdq | apply wrq | refine wsq ?_ GE105.out) | exact HB.out)⟩
       ·rw [if_neg c16] at H
        exact absurd H (by simp)
      ·rw [if_neg c15] at H
       exact absurd H (by simp)
     ·rw [if_neg c13] at H
      have c13b0 : decide ((l0_1.length : Int) ≤ 100) = false := decide_eq_false c13
      have c13b1 : decide (l0_1.length ≤ 100) = false := decide_eq_false (by omega)
      clear c13
      obtain rfl := Option.some.inj H
      go_wp2
      go_ret
      exact ⟨by first | rfl | (simp [errW_none, errW_some] <;> rfl) | (simp [*, errW_none, errW_some] <;> rfl), by repeat (first | (with_reducible first | exact HB.out | apply waq | apply wdq | apply wrq | refine wsq ?_ GE105.out) | exact HB.out)⟩
end Go.Proofs.YtjggbalhpflbbaaGreat.PW
end
section
namespace Go.Proofs.YtjggbalhpflbbaaGreat.PW
open Go.RowKit Go.Proofs.YtjggbalhpflbbaaGreatW.PrintWords Go.Proofs.YtjggbalhpflbbaaGreatW.PrintLast Go.Proofs.YtjggbalhpflbbaaGreatW.PrintMore
attribute [local go_sem] max2_int min2_int max_two min_two max_three min_three max_four min_four   -- for this text's walks alone
set_option linter.unusedVariables false
set_option linter.unusedSimpArgs false
mutual
def impl_IsWhole.j0 : Nat → Int → Bool → Int → List Int → Option (Bool)
 | 0, _, _, _, _ => none
 | k + 1, x3, x28, x397000, x397001 => if x28 = true then (some false) else (impl_IsWhole.l0 k x3 x397001 (x397001.length : Int) 0 x397000 x397001)
def impl_IsWhole.l0 : Nat → Int → List Int → Int → Int → Int → List Int → Option (Bool)
 | 0, _, _, _, _, _, _ => none
 | k + 1, x3, x30, x31, x32, x397000, x397001 => if x32 < x31 then (if 0 ≤ x32 then (if x32 < (x30.length : Int) then (if (rd x30 x32) < 0 then (some false) else (if (rd x30 x32) > 16777215 then (some false) else (impl_IsWhole.l0 k x3 x30 x31 (wrap64 (x32 + 1)) x397000 x397001))) else (none)) else (none)) else (if x3 = 0 then (some true) else (if 0 ≤ (wrap64 (x3 - 1)) then (if (wrap64 (x3 - 1)) < (x397001.length : Int) then (some ((rd x397001 (wrap64 (x3 - 1))) != 0)) else (none)) else (none)))
end
def impl_IsWhole.f (k : Nat) (a0_0 : Int) (l0_1 : List Int) : Option (Bool) := if (l0_1.length : Int) > 100 then (impl_IsWhole.j0 k (l0_1.length : Int) true a0_0 l0_1) else (if a0_0 < (-1) then (impl_IsWhole.j0 k (l0_1.length : Int) true a0_0 l0_1) else (if a0_0 > 1 then (impl_IsWhole.j0 k (l0_1.length : Int) true a0_0 l0_1) else (impl_IsWhole.j0 k (l0_1.length : Int) ((a0_0 == 0) != ((l0_1.length : Int) == 0)) a0_0 l0_1)))
theorem impl_IsWhole.mono_l : ∀ k, (∀ y0 y1 y2 y3, LeO (impl_IsWhole.j0 k y0 y1 y2 y3) (impl_IsWhole.j0 (k + 1) y0 y1 y2 y3)) ∧ (∀ y0 y1 y2 y3 y4 y5, LeO (impl_IsWhole.l0 k y0 y1 y2 y3 y4 y5) (impl_IsWhole.l0 (k + 1) y0 y1 y2 y3 y4 y5))
 | 0 => ⟨fun _ _ _ _ r h => by simp [impl_IsWhole.j0] at h, fun _ _ _ _ _ _ r h => by simp [impl_IsWhole.l0] at h⟩
 | k + 1 => by
  obtain ⟨ih0, ih1⟩ := impl_IsWhole.mono_l k
  refine ⟨?_, ?_⟩
  ·intro y0 y1 y2 y3
   unfold impl_IsWhole.j0
   repeat' first
   | (with_reducible exact ih0 _ _ _ _)
   | (with_reducible exact ih1 _ _ _ _ _ _)
   | (with_reducible exact LeO.refl _)
   | (with_reducible exact LeO.none _)
   | (with_reducible refine LeO.ite ?_ ?_)
   | (with_reducible refine LeO.bind ?_ (fun _ => ?_))
   | exact ih0 _ _ _ _
   | exact ih1 _ _ _ _ _ _
   | exact LeO.none _
   | refine LeO.ite ?_ ?_
   | refine LeO.bind ?_ (fun _ => ?_)
  ·intro y0 y1 y2 y3 y4 y5
   unfold impl_IsWhole.l0
   repeat' first
   | (with_reducible exact ih0 _ _ _ _)
   | (with_reducible exact ih1 _ _ _ _ _ _)
   | (with_reducible exact LeO.refl _)
   | (with_reducible exact LeO.none _)
   | (with_reducible refine LeO.ite ?_ ?_)
   | (with_reducible refine LeO.bind ?_ (fun _ => ?_))
   | exact ih0 _ _ _ _
   | exact ih1 _ _ _ _ _ _
   | exact LeO.none _
   | refine LeO.ite ?_ ?_
   | refine LeO.bind ?_ (fun _ => ?_)
theorem impl_IsWhole.mono : ∀ a0 a1 k, LeO (impl_IsWhole.f k a0 a1) (impl_IsWhole.f (k + 1) a0 a1) := by
 intro a0 a1 k
 obtain ⟨ih0, ih1⟩ := impl_IsWhole.mono_l k
 unfold impl_IsWhole.f
 repeat' first
   | (with_reducible exact ih0 _ _ _ _)
   | (with_reducible exact ih1 _ _ _ _ _ _)
   | (with_reducible exact LeO.refl _)
   | (with_reducible exact LeO.none _)
   | (with_reducible refine LeO.ite ?_ ?_)
   | (with_reducible refine LeO.bind ?_ (fun _ => ?_))
   | exact ih0 _ _ _ _
   | exact ih1 _ _ _ _ _ _
   | exact LeO.none _
   | refine LeO.ite ?_ ?_
   | refine LeO.bind ?_ (fun _ => ?_)
set_option maxHeartbeats 8000000 in
set_option maxRecDepth 100000 in
theorem impl_IsWhole.calls (k : Nat) (a0_0 : Int) (A0_1 : Option Addr) (c0_1 : Nat) (l0_1 : List Int) (r : Bool) (w : World) (hr0_1 : Kd.C (Kd.int .i64) w A0_1 l0_1.length l0_1) (hc0_1 : l0_1.length ≤ c0_1) (h : impl_IsWhole.f k a0_0 l0_1 = some r) :
  Calls Tryz.prog 66 #[.agg #[.int .i64 a0_0, .slice A0_1 l0_1.length c0_1]] w fun e w' => e = .returned (.bool r) ∧ Below w.heap.size w w' := by
 have hu28 := Tryz.underlying28
 have HR0_1 := Azq.mk hr0_1
 have HC0_1 := Azq.mk hc0_1
 clear hr0_1 hc0_1
 have HB := Azq.mk (Below.refl w.heap.size w)
 have H : (if (l0_1.length : Int) > 100 then (impl_IsWhole.j0 k (l0_1.length : Int) true a0_0 l0_1) else (if a0_0 < (-1) then (impl_IsWhole.j0 k (l0_1.length : Int) true a0_0 l0_1) else (if a0_0 > 1 then (impl_IsWhole.j0 k (l0_1.length : Int) true a0_0 l0_1) else (impl_IsWhole.j0 k (l0_1.length : Int) ((a0_0 == 0) != ((l0_1.length : Int) == 0)) a0_0 l0_1)))) = some r := h
 clear h
 have HC2 := Azq.mk H
 clear H
 go_enter Tryz.func66, Tryz.ntmps66
 go_upto_region 2 with (first | ((with_reducible refine gate_dst (N := 1) rfl ?_); refine box_event ?hg (N := 1) ?hd (cs := #[.int .i64 a0_0, .slice A0_1 l0_1.length c0_1]) (t := 28) ?hr ?_; (case hd => rfl); (case hg => rfl); (case hr => first | (go_simp; done) | (go_simp; rfl)); intro gb396 hg w3 hbox hb; have n0_ := Azq.mk (wtq (by repeat (first | (with_reducible first | exact HB.out | apply waq | apply wdq | apply wrq) | exact HB.out)) hb); have n1_ := Azq.mk (hbox); have n2_ := Azq.mk ((by rw [hg]; exact (wzq (by repeat (first | (with_reducible first | exact HB.out | apply waq | apply wdq | apply wrq) | exact HB.out))) : w.heap.size ≤ gb396)); have n3_ := n2_; clear HB; have HB := n0_; have BK396 := n1_; have GW396 := n2_; have GE396 := n3_; clear n0_ n1_ n2_ n3_; clear hb hbox hg; have hcz4_0 : w3.cell? ⟨gb396, 0, none⟩ = some (.int .i64 a0_0) := (kcq BK396.out 0).trans rfl; have hcz4_1 : w3.cell? ⟨gb396, 1, none⟩ = some (.slice A0_1 l0_1.length c0_1) := (kcq BK396.out 1).trans rfl; have hfz4_0 := kfq BK396.out 0; have hfz4_1 := kfq BK396.out 1))
 (try simp only [Act.put, List.setIfInBounds_toArray, List.set_cons_zero, List.set_cons_succ])
 go_cut [28] (fun v28 wc => ∃ (kq : Nat) (x28_1 : Bool), v28 = .bool x28_1 ∧ Azq (impl_IsWhole.j0 kq (l0_1.length : Int) x28_1 a0_0 l0_1 = some r) ∧ Azq (kq ≤ k) ∧ Azq (wc.heap[gb396]? = some (.cells #[.int .i64 a0_0, (.slice A0_1 l0_1.length c0_1)] 28 (0, 0))) ∧ Azq (Below w.heap.size w wc))
 case first =>
  have H := HC2.out
  clear HC2
  by_cases c5 : (l0_1.length : Int) > 100
  ·rw [if_pos c5] at H
   have c5b0 : decide (100 < (l0_1.length : Int)) = true := decide_eq_true c5
   have c5b1 : decide (100 < l0_1.length) = true := decide_eq_true (by omega)
   clear c5
   (first | rw [c5b0] | (simp only [i64_w, i32_w]; rw [c5b0]) | skip)
   have H' := Azq.mk H
   clear H
   go_wp2
   go_meet
   case rel => exact ⟨_, (true), (by first | rfl | (simp; done) | (simp [*]; done)), H', ⟨by first | omega | exact Nat.le_refl _⟩, ⟨by (with_reducible repeat (first | refine kdq ?_ _ | refine krq ?_ | refine kaq ?_ _)); exact BK396.out⟩, ⟨by repeat (first | (with_reducible first | exact HB.out | apply waq | apply wdq | apply wrq | refine wsq ?_ GE396.out) | exact HB.out)⟩⟩
  ·rw [if_neg c5] at H
   have c5b0 : decide (100 < (l0_1.length : Int)) = false := decide_eq_false c5
   have c5b1 : decide (100 < l0_1.length) = false := decide_eq_false (by omega)
   clear c5
   (first | rw [c5b0] | (simp only [i64_w, i32_w]; rw [c5b0]) | skip)
   by_cases c6 : a0_0 < (-1)
   ·rw [if_pos c6] at H
    have c6b0 : decide (a0_0 < (-1)) = true := decide_eq_true c6
    clear c6
    have H' := Azq.mk H
    clear H
    have hcz7_0 : w3.cell? ⟨gb396, 0, none⟩ = some (.int .i64 a0_0) := (kcq BK396.out 0).trans rfl
    have hcz7_1 : w3.cell? ⟨gb396, 1, none⟩ = some (.slice A0_1 l0_1.length c0_1) := (kcq BK396.out 1).trans rfl
    have hfz7_0 := kfq BK396.out 0
    have hfz7_1 := kfq BK396.out 1
    go_wp2
    go_meet
    case rel => exact ⟨_, (true), (by first | rfl | (simp; done) | (simp [*]; done)), H', ⟨by first | omega | exact Nat.le_refl _⟩, ⟨by (with_reducible repeat (first | refine kdq ?_ _ | refine krq ?_ | refine kaq ?_ _)); exact BK396.out⟩, ⟨by repeat (first | (with_reducible first | exact HB.out | apply waq | apply wdq | apply wrq | refine wsq ?_ GE396.out) | exact HB.out)⟩⟩
   ·rw [if_neg c6] at H
    have c6b0 : decide (a0_0 < (-1)) = false := decide_eq_false c6
    clear c6
    by_cases c8 : a0_0 > 1
    ·rw [if_pos c8] at H
     have c8b0 : decide (1 < a0_0) = true := decide_eq_true c8
     clear c8
     have H' := Azq.mk H
     clear H
     have hcz9_0 : w3.cell? ⟨gb396, 0, none⟩ = some (.int .i64 a0_0) := (kcq BK396.out 0).trans rfl
     have hcz9_1 : w3.cell? ⟨gb396, 1, none⟩ = some (.slice A0_1 l0_1.length c0_1) := (kcq BK396.out 1).trans rfl
     have hfz9_0 := kfq BK396.out 0
     have hfz9_1 := kfq BK396.out 1
     go_wp2
     go_meet
     case rel => exact ⟨_, (true), (by first | rfl | (simp; done) | (simp [*]; done)), H', ⟨by first | omega | exact Nat.le_refl _⟩, ⟨by (with_reducible repeat (first | refine kdq ?_ _ | refine krq ?_ | refine kaq ?_ _)); exact BK396.out⟩, ⟨by repeat (first | (with_reducible first | exact HB.out | apply waq | apply wdq | apply wrq | refine wsq ?_ GE396.out) | exact HB.out)⟩⟩
    ·rw [if_neg c8] at H
     have c8b0 : decide (1 < a0_0) = false := decide_eq_false c8
     clear c8
     have H' := Azq.mk H
     clear H
     have hcz10_0 : w3.cell? ⟨gb396, 0, none⟩ = some (.int .i64 a0_0) := (kcq BK396.out 0).trans rfl
     have hcz10_1 : w3.cell? ⟨gb396, 1, none⟩ = some (.slice A0_1 l0_1.length c0_1) := (kcq BK396.out 1).trans rfl
     have hfz10_0 := kfq BK396.out 0
     have hfz10_1 := kfq BK396.out 1
     go_wp2
     go_meet
     case rel => exact ⟨_, (((a0_0 == 0) != ((l0_1.length : Int) == 0))), (by first | rfl | (simp; done) | (simp [*]; done)), H', ⟨by first | omega | exact Nat.le_refl _⟩, ⟨by (with_reducible repeat (first | refine kdq ?_ _ | refine krq ?_ | refine kaq ?_ _)); exact BK396.out⟩, ⟨by repeat (first | (with_reducible first | exact HB.out | apply waq | apply wdq | apply wrq | refine wsq ?_ GE396.out) | exact HB.out)⟩⟩
 case rest =>
  clear HC2
  try clear p2
  try clear c5
  try clear c5b0
  try clear c5b1
  try clear c6
  try clear c6b0
  try clear c8
  try clear c8b0
  try clear hcz10_0
  try clear hcz10_1
  try clear hcz4_0
  try clear hcz4_1
  try clear hcz7_0
  try clear hcz7_1
  try clear hcz9_0
  try clear hcz9_1
  try clear hfz10_0
  try clear hfz10_1
  try clear hfz4_0
  try clear hfz4_1
  try clear hfz7_0
  try clear hfz7_1
  try clear hfz9_0
  try clear hfz9_1
  obtain ⟨kq, x28_1, rfl, HA, HJ1, BK396, HB⟩ := hcut
  cases kq with
  | zero => exact absurd HA.out (by simp [impl_IsWhole.j0])
  | succ kj1 =>
   have H := HA.out
   clear HA
   simp only [impl_IsWhole.j0] at H
   by_cases c11 : x28_1 = true
   ·subst c11
    have H1 : (some false) = some r := by rw [if_pos rfl] at H; exact H
    clear H
    have H := H1
    clear H1
    obtain rfl := Option.some.inj H
    go_wp2
    go_ret
    exact ⟨by first | rfl | (simp [errW_none, errW_some] <;> rfl) | (simp [*, errW_none, errW_some] <;> rfl), by repeat (first | (with_reducible first | exact HB.out | apply waq | apply wdq | apply wrq | refine wsq ?_ GE396.out) | exact HB.out)⟩
   ·replace c11 := Bool.eq_false_iff.mpr c11
    subst c11
    have H1 : (impl_IsWhole.l0 kj1 (l0_1.length : Int) l0_1 (l0_1.length : Int) 0 a0_0 l0_1) = some r := by rw [if_neg (show ¬ (false = true) by decide)] at H; exact H
    clear H
    have H := H1
    clear H1
    have H' := Azq.mk H
    clear H
    have hcz12_0 : wc.cell? ⟨gb396, 0, none⟩ = some (.int .i64 a0_0) := (kcq BK396.out 0).trans rfl
    have hcz12_1 : wc.cell? ⟨gb396, 1, none⟩ = some (.slice A0_1 l0_1.length c0_1) := (kcq BK396.out 1).trans rfl
    have hfz12_0 := kfq BK396.out 0
    have hfz12_1 := kfq BK396.out 1
    go_wp2
    go_loopg [32] kj1 (fun kq v32 w' => ∃ (x32_2 : Int), v32 = .int .i64 x32_2 ∧ Azq (impl_IsWhole.l0 kq (l0_1.length : Int) l0_1 (l0_1.length : Int) x32_2 a0_0 l0_1 = some r) ∧ Azq (kq ≤ kj1) ∧ Azq (w'.heap[gb396]? = some (.cells #[.int .i64 a0_0, (.slice A0_1 l0_1.length c0_1)] 28 (0, 0))) ∧ Azq (Below w.heap.size w w'))
    case atStart => exact ⟨(0), (by first | rfl | (simp; done) | (simp [*]; done)), H', ⟨Nat.le_refl _⟩, ⟨by (with_reducible repeat (first | refine kdq ?_ _ | refine krq ?_ | refine kaq ?_ _)); exact BK396.out⟩, ⟨by repeat (first | (with_reducible first | exact HB.out | apply waq | apply wdq | apply wrq | refine wsq ?_ GE396.out) | exact HB.out)⟩⟩
    case round =>
     clear H'
     try clear c1
     try clear p2
     try clear c5
     try clear c5b0
     try clear c5b1
     try clear c6
     try clear c6b0
     try clear c8
     try clear c8b0
     try clear c11
     try clear hcz10_0
     try clear hcz10_1
     try clear hcz12_0
     try clear hcz12_1
     try clear hcz4_0
     try clear hcz4_1
     try clear hcz7_0
     try clear hcz7_1
     try clear hcz9_0
     try clear hcz9_1
     try clear hfz10_0
     try clear hfz10_1
     try clear hfz12_0
     try clear hfz12_1
     try clear hfz4_0
     try clear hfz4_1
     try clear hfz7_0
     try clear hfz7_1
     try clear hfz9_0
     try clear hfz9_1
     try clear p2
     obtain ⟨x32_2, rfl, HA, HK2, BK396, HB⟩ := hrel
     cases gk with
     | zero => exact absurd HA.out (by simp [impl_IsWhole.l0])
     | succ k2 =>
      have H := HA.out
      clear HA
      simp only [impl_IsWhole.l0] at H
      by_cases c13 : x32_2 < (l0_1.length : Int)
      ·rw [if_pos c13] at H
       have c13b0 : decide (x32_2 < (l0_1.length : Int)) = true := decide_eq_true c13
       clear c13
       by_cases c14 : 0 ≤ x32_2
       ·rw [if_pos c14] at H
        have c14b0 : decide (0 ≤ x32_2) = true := decide_eq_true c14
        clear c14
        by_cases c15 : x32_2 < (l0_1.length : Int)
        ·rw [if_pos c15] at H
         have c15b0 : decide (x32_2 < (l0_1.length : Int)) = true := decide_eq_true c15
         clear c15
         by_cases c16 : (rd l0_1 x32_2) < 0
         ·rw [if_pos c16] at H
          have c16b0 : decide ((rd l0_1 x32_2) < 0) = true := decide_eq_true c16
          clear c16
          obtain rfl := Option.some.inj H
          have p397 : 0 ≤ (x32_2 : Int) := of_decide_eq_true (by first | (with_reducible assumption) | assumption)
          have q397 : x32_2 < (l0_1.length : Int) := of_decide_eq_true (by first | (with_reducible assumption) | assumption)
          obtain ⟨ad397, e397, hx397_0⟩ := Kd.at_int HR0_1.out x32_2 p397 q397
          cases e397
          replace hx397_0 := (HB.out.cell (World.block_lt_of_cell? w _ hx397_0)).trans hx397_0
          replace p397 := eq_true p397
          replace q397 := eq_true q397
          go_wp2
          go_ret
          exact ⟨by first | rfl | (simp [errW_none, errW_some] <;> rfl) | (simp [*, errW_none, errW_some] <;> rfl), by repeat (first | (with_reducible first | exact HB.out | apply waq | apply wdq | apply wrq | refine wsq ?_ GE396.out) | exact HB.out)⟩
         ·rw [if_neg c16] at H
          have c16b0 : decide ((rd l0_1 x32_2) < 0) = false := decide_eq_false c16
          clear c16
          by_cases c17 : (rd l0_1 x32_2) > 16777215
          ·rw [if_pos c17] at H
           have c17b0 : decide (16777215 < (rd l0_1 x32_2)) = true := decide_eq_true c17
           clear c17
           obtain rfl := Option.some.inj H
           have p397 : 0 ≤ (x32_2 : Int) := of_decide_eq_true (by first | (with_reducible assumption) | assumption)
           have q397 : x32_2 < (l0_1.length : Int) := of_decide_eq_true (by first | (with_reducible assumption) | assumption)
           obtain ⟨ad397, e397, hx397_0⟩ := Kd.at_int HR0_1.out x32_2 p397 q397
           cases e397
           replace hx397_0 := (HB.out.cell (World.block_lt_of_cell? w _ hx397_0)).trans hx397_0
           replace p397 := eq_true p397
           replace q397 := eq_true q397
           go_wp2
           go_ret
           exact ⟨by first | rfl | (simp [errW_none, errW_some] <;> rfl) | (simp [*, errW_none, errW_some] <;> rfl), by repeat (first | (with_reducible first | exact HB.out | apply waq | apply wdq | apply wrq | refine wsq ?_ GE396.out) | exact HB.out)⟩
          ·rw [if_neg c17] at H
           have c17b0 : decide (16777215 < (rd l0_1 x32_2)) = false := decide_eq_false c17
           clear c17
           have H' := Azq.mk H
           clear H
           have p397 : 0 ≤ (x32_2 : Int) := of_decide_eq_true (by first | (with_reducible assumption) | assumption)
           have q397 : x32_2 < (l0_1.length : Int) := of_decide_eq_true (by first | (with_reducible assumption) | assumption)
           obtain ⟨ad397, e397, hx397_0⟩ := Kd.at_int HR0_1.out x32_2 p397 q397
           cases e397
           replace hx397_0 := (HB.out.cell (World.block_lt_of_cell? w _ hx397_0)).trans hx397_0
           replace p397 := eq_true p397
           replace q397 := eq_true q397
           go_wp2
           go_roundg k2
           case measure => have := HJ1.out; have := HK2.out; omega
           case rel => exact ⟨(wrap64 (x32_2 + 1)), (by first | rfl | (simp; done) | (simp [*]; done)), H', ⟨by have := HJ1.out; have := HK2.out; omega⟩, ⟨by (with_reducible repeat (first | refine kdq ?_ _ | refine krq ?_ | refine kaq ?_ _)); exact BK396.out⟩, ⟨by repeat (first | (with_reducible first | exact HB.out | apply waq | apply wdq | apply wrq | refine wsq ?_ GE396.out) | exact HB.out)⟩⟩
        ·rw [if_neg c15] at H
         exact absurd H (by simp)
       ·rw [if_neg c14] at H
        exact absurd H (by simp)
      ·rw [if_neg c13] at H
       have c13b0 : decide (x32_2 < (l0_1.length : Int)) = false := decide_eq_false c13
       clear c13
       by_cases c18 : (l0_1.length : Int) = 0
       ·rw [if_pos c18] at H
        have c18b0 : ((l0_1.length : Int) == 0) = true := beq_iff_eq.mpr c18
        have c18b1 : ((l0_1.length : Int) != 0) = false := bne_eq_false_iff_eq.mpr c18
        clear c18
        obtain rfl := Option.some.inj H
        go_wp2
        go_ret
        exact ⟨by first | rfl | (simp [errW_none, errW_some] <;> rfl) | (simp [*, errW_none, errW_some] <;> rfl), by repeat (first | (with_reducible first | exact HB.out | apply waq | apply wdq | apply wrq | refine wsq ?_ GE396.out) | exact HB.out)⟩
       ·rw [if_neg c18] at H
        have c18b0 : ((l0_1.length : Int) == 0) = false := beq_eq_false_iff_ne.mpr c18
        have c18b1 : ((l0_1.length : Int) != 0) = true := bne_iff_ne.mpr c18
        have c18b2 : ¬ (l0_1 = []) := fun h_ => c18 (by rw [h_]; rfl)
        obtain ⟨ji19, hji19⟩ : ∃ j_ : Int, (wrap64 ((l0_1.length : Int) - 1)) = j_ := ⟨_, rfl⟩
        replace H : (if 0 ≤ (ji19) then (if (ji19) < (l0_1.length : Int) then (some ((rd l0_1 (ji19)) != 0)) else (none)) else (none)) = some r := by first | (rw [hji19] at H; exact H) | (simp only [hji19] at H ⊢; exact H)
        have hji19w : (IntKind.i64.wrap ((l0_1.length : Int) - 1)) = ji19 := (i64_w _).trans hji19
        by_cases c20 : 0 ≤ (ji19)
        ·rw [if_pos c20] at H
         have c20b0 : decide (0 ≤ (ji19)) = true := decide_eq_true c20
         clear c20
         by_cases c21 : (ji19) < (l0_1.length : Int)
         ·rw [if_pos c21] at H
          have c21b0 : decide ((ji19) < (l0_1.length : Int)) = true := decide_eq_true c21
          clear c21
          obtain rfl := Option.some.inj H
          have hcz22_0 : wr.cell? ⟨gb396, 0, none⟩ = some (.int .i64 a0_0) := (kcq BK396.out 0).trans rfl
          have hcz22_1 : wr.cell? ⟨gb396, 1, none⟩ = some (.slice A0_1 l0_1.length c0_1) := (kcq BK396.out 1).trans rfl
          have hfz22_0 := kfq BK396.out 0
          have hfz22_1 := kfq BK396.out 1
          have p398 : 0 ≤ ((ji19) : Int) := of_decide_eq_true (by first | (with_reducible assumption) | assumption)
          have q398 : (ji19) < (l0_1.length : Int) := of_decide_eq_true (by first | (with_reducible assumption) | assumption)
          obtain ⟨ad398, e398, hx398_0⟩ := Kd.at_int HR0_1.out (ji19) p398 q398
          cases e398
          replace hx398_0 := (HB.out.cell (World.block_lt_of_cell? w _ hx398_0)).trans hx398_0
          replace p398 := eq_true p398
          replace q398 := eq_true q398
          go_wp2
          go_ret
          exact ⟨by first | rfl | (simp [errW_none, errW_some] <;> rfl) | (simp only [← hji19]; first | rfl | (simp [errW_none, errW_some] <;> rfl)) | (simp [*, errW_none, errW_some] <;> rfl), by repeat (first | (with_reducible first | exact HB.out | apply waq | apply wdq | apply wrq | refine wsq ?_ GE396.out) | exact HB.out)⟩
         ·rw [if_neg c21] at H
          exact absurd H (by simp)
        ·rw [if_neg c20] at H
         exact absurd H (by simp)
end Go.Proofs.YtjggbalhpflbbaaGreat.PW
end
section
namespace Go.Proofs.YtjggbalhpflbbaaGreat.Pb
open Go.RowKit Go.Proofs.YtjggbalhpflbbaaGreatW.PrintWords Go.Proofs.YtjggbalhpflbbaaGreat.PW Go.Proofs.YtjggbalhpflbbaaGreat.Pc
set_option linter.unusedVariables false
set_option linter.unusedSimpArgs false
theorem sz_le (s : Int) (l : List Int) (n : Int) (h : (l.length : Int) ≤ n) (hn : n ≤ 1048576) : laws_szWhole.f s l n = some (n - l.length) := by
  unfold laws_szWhole.f laws_szInt64S.f
  rw [wrapZ _ (by omega) (by omega), if_neg (by omega)]
  simp only [Option.bind_some]
  rw [if_neg (by omega)]
theorem sz_gt (s : Int) (l : List Int) (n : Int) (hm : l.length ≤ 9223372036854775807) (hn : n ≤ 1048576) (h : n < (l.length : Int)) (h0 : 0 ≤ n) : laws_szWhole.f s l n = some (-1) := by
  unfold laws_szWhole.f laws_szInt64S.f
  rw [wrapZ _ (by omega) (by omega), if_pos (by omega)]
  rfl
theorem take_step {l ys : List Int} {i : Nat} (hi : i < l.length) (hy : ys.length = l.length) (h : ys.take i = l.take i) : (ys.set i (l.getD i 0)).take (i + 1) = l.take (i + 1) := by
  rw [List.take_succ_eq_append_getElem (by simp; omega), List.take_succ_eq_append_getElem hi, Dg.take_set, h]
  simp [hi]
theorem toInt64S_loop (l : List Int) (hl : l.length ≤ 1048576) (d : Nat) : ∀ (i : Nat) (ys : List Int), i + d = l.length → ys.length = l.length → ys.take i = l.take i → Ev (fun k => laws_toInt64S.l0 k l ys (i : Int)) l := by
  induction d with
  | zero =>
    intro i ys hd hy h
    refine Ev.step (f := fun k => some l) (fun k => ?_) (ev_of fun _ => rfl)
    simp only [laws_toInt64S.l0]
    rw [if_neg (by omega)]
    rw [List.take_of_length_le (by omega), List.take_of_length_le (by omega)] at h
    rw [h]
  | succ d ih =>
    intro i ys hd hy h
    refine Ev.step (f := fun k => laws_toInt64S.l0 k l (ys.set i (l.getD i 0)) ((i + 1 : Nat) : Int)) (fun k => ?_) (ih (i + 1) _ (by omega) (by simpa using hy) (take_step (by omega) hy h))
    simp only [laws_toInt64S.l0]
    rw [if_pos (by omega), if_pos (by omega), if_pos (by omega), wrapN i (by omega), rdN, Int.toNat_natCast]
theorem toWhole (s : Int) (l : List Int) (hl : l.length ≤ 1048576) : Ev (fun k => laws_toWhole.f k s l) (s, l) := by
  unfold laws_toWhole.f laws_toInt64S.f
  refine Ev.bind (f := fun _ t => some (s, t)) (ifp (by omega) (ifp (by omega) ?_)) (ev_of fun _ => rfl)
  exact (toInt64S_loop l hl l.length 0 _ (by omega) (by simp) (by simp))
theorem eqInt64S_loop (l : List Int) (hl : l.length ≤ 9223372036854775807) (d : Nat) : ∀ (i : Nat), i + d = l.length → Ev (fun k => laws_eqInt64S.l0 k l l (i : Int)) true := by
  induction d with
  | zero =>
    intro i hd
    refine Ev.step (f := fun k => some true) (fun k => ?_) (ev_of fun _ => rfl)
    simp only [laws_eqInt64S.l0]
    rw [if_neg (by omega)]
  | succ d ih =>
    intro i hd
    refine Ev.step (f := fun k => laws_eqInt64S.l0 k l l ((i + 1 : Nat) : Int)) (fun k => ?_) (ih (i + 1) (by omega))
    simp only [laws_eqInt64S.l0]
    rw [if_pos (by omega), if_pos (by omega), if_pos (by omega), if_pos trivial, wrapZ _ (by omega) (by omega)]
    rfl
theorem eqWhole_self (s : Int) (l : List Int) (hl : l.length ≤ 9223372036854775807) : Ev (fun k => laws_eqWhole.f k s l s l) true := by
  unfold laws_eqWhole.f laws_eqInt64S.f
  exact ifp rfl (Ev.bind (f := fun _ (t : Bool) => if t = true then some true else some false) (ifp rfl (eqInt64S_loop l hl l.length 0 (by omega))) (ev_of fun _ => rfl))
def digB (l : List Int) : Bool := l.all fun x => decide (0 ≤ x) && decide (x ≤ 16777215)
def isW (s : Int) (l : List Int) : Bool :=
  digB l && (if l.length = 0 then s == 0 else decide (l.length ≤ 100) && (l.getD (l.length - 1) 0 != 0) && (s == 1 || s == -1))
theorem l02Is_loop (s : Int) (l : List Int) (hl : l.length ≤ 9223372036854775807) (d : Nat) : ∀ (i : Nat), i + d = l.length →
    Ev (fun k => spec_l02Is.l0 k (l.length : Int) (i : Int) s l) (digB (l.drop i) && (if l.length = 0 then s == 0 else decide (l.length ≤ 100) && (l.getD (l.length - 1) 0 != 0) && (s == 1 || s == -1))) := by
  induction d with
  | zero =>
    intro i hd
    have hi : i = l.length := by omega
    subst hi
    refine Ev.step (f := fun k => some _) (fun k => ?_) (ev_of fun _ => rfl)
    simp only [spec_l02Is.l0]
    rw [if_neg (by omega), List.drop_length]
    simp only [digB, List.all_nil, Bool.true_and]
    by_cases h0 : l.length = 0
    · rw [if_pos (by omega), if_pos h0]
    · rw [if_neg (by omega), if_neg h0]
      by_cases h1 : l.length ≤ 100
      · rw [if_pos (by omega), wrapZ _ (by omega) (by omega), if_pos (by omega), if_pos (by omega), show ((l.length : Int) - 1) = ((l.length - 1 : Nat) : Int) by omega, rdN]
        simp only [h1, decide_true, Bool.true_and]
        by_cases h2 : l.getD (l.length - 1) 0 = 0
        · rw [if_pos h2, h2]; simp
        · rw [if_neg h2]
          have h4 : (l.getD (l.length - 1) 0 != 0) = true := by rw [bne_iff_ne]; exact h2
          rw [h4]
          by_cases h3 : s = 1
          · rw [if_pos h3]; simp [h3]
          · rw [if_neg h3]; simp [h3]
      · rw [if_neg (by omega)]; simp [h1]
  | succ d ih =>
    intro i hd
    have hlt : i < l.length := by omega
    have hdrop : l.drop i = l.getD i 0 :: l.drop (i + 1) := by rw [List.drop_eq_getElem_cons hlt, Dg.getD_lt hlt]
    by_cases hx : 0 ≤ l.getD i 0 ∧ l.getD i 0 ≤ 16777215
    · have e : digB (l.drop i) = digB (l.drop (i + 1)) := by rw [hdrop]; simp only [digB, List.all_cons, hx.1, hx.2, decide_true, Bool.true_and]
      rw [e]
      refine Ev.step (f := fun k => spec_l02Is.l0 k (l.length : Int) ((i + 1 : Nat) : Int) s l) (fun k => ?_) (ih (i + 1) (by omega))
      simp only [spec_l02Is.l0]
      rw [if_pos (by omega), if_pos (by omega), if_pos (by omega), rdN]
      unfold spec_l01In.f
      rw [if_pos hx.1]
      simp only [Option.bind_some, hx.2, decide_true, if_true]
      rw [wrapZ _ (by omega) (by omega)]
      rfl
    · have e : digB (l.drop i) = false := by rw [hdrop]; simp only [digB, List.all_cons, Bool.and_eq_false_iff, decide_eq_false_iff_not]; omega
      rw [e, Bool.false_and]
      refine Ev.step (f := fun k => some false) (fun k => ?_) (ev_of fun _ => rfl)
      simp only [spec_l02Is.l0]
      rw [if_pos (by omega), if_pos (by omega), if_pos (by omega), rdN]
      unfold spec_l01In.f
      by_cases h1 : 0 ≤ l.getD i 0
      · rw [if_pos h1]
        have h2 : ¬ l.getD i 0 ≤ 16777215 := fun h => hx ⟨h1, h⟩
        simp only [h2, decide_false, Option.bind_some]; rfl
      · rw [if_neg h1]; rfl
theorem l02Is (s : Int) (l : List Int) (hl : l.length ≤ 9223372036854775807) : Ev (fun k => spec_l02Is.f k s l) (isW s l) := by
  have := l02Is_loop s l hl l.length 0 (by omega)
  rw [List.drop_zero] at this
  exact this
theorem impl_loop (s : Int) (l : List Int) (hl : l.length ≤ 9223372036854775807) (d : Nat) : ∀ (i : Nat), i + d = l.length →
    Ev (fun k => impl_IsWhole.l0 k (l.length : Int) l (l.length : Int) (i : Int) s l) (digB (l.drop i) && (decide (l.length = 0) || (l.getD (l.length - 1) 0 != 0))) := by
  induction d with
  | zero =>
    intro i hd
    have hi : i = l.length := by omega
    subst hi
    refine Ev.step (f := fun k => some _) (fun k => ?_) (ev_of fun _ => rfl)
    simp only [impl_IsWhole.l0]
    rw [if_neg (by omega), List.drop_length]
    simp only [digB, List.all_nil, Bool.true_and]
    by_cases h0 : l.length = 0
    · rw [if_pos (by omega)]; simp [h0]
    · rw [if_neg (by omega), wrapZ _ (by omega) (by omega), if_pos (by omega), if_pos (by omega), show ((l.length : Int) - 1) = ((l.length - 1 : Nat) : Int) by omega, rdN]
      simp [h0]
  | succ d ih =>
    intro i hd
    have hlt : i < l.length := by omega
    have hdrop : l.drop i = l.getD i 0 :: l.drop (i + 1) := by rw [List.drop_eq_getElem_cons hlt, Dg.getD_lt hlt]
    by_cases hx : 0 ≤ l.getD i 0 ∧ l.getD i 0 ≤ 16777215
    · have e : digB (l.drop i) = digB (l.drop (i + 1)) := by rw [hdrop]; simp only [digB, List.all_cons, hx.1, hx.2, decide_true, Bool.true_and]
      rw [e]
      refine Ev.step (f := fun k => impl_IsWhole.l0 k (l.length : Int) l (l.length : Int) ((i + 1 : Nat) : Int) s l) (fun k => ?_) (ih (i + 1) (by omega))
      simp only [impl_IsWhole.l0]
      rw [if_pos (by omega), if_pos (by omega), if_pos (by omega), rdN, if_neg (by omega), if_neg (by omega), wrapZ _ (by omega) (by omega)]
      rfl
    · have e : digB (l.drop i) = false := by rw [hdrop]; simp only [digB, List.all_cons, Bool.and_eq_false_iff, decide_eq_false_iff_not]; omega
      rw [e, Bool.false_and]
      refine Ev.step (f := fun k => some false) (fun k => ?_) (ev_of fun _ => rfl)
      simp only [impl_IsWhole.l0]
      rw [if_pos (by omega), if_pos (by omega), if_pos (by omega), rdN]
      by_cases h1 : l.getD i 0 < 0
      · rw [if_pos h1]
      · rw [if_neg h1, if_pos (by omega)]
theorem j0_true (n s : Int) (l : List Int) : Ev (fun k => impl_IsWhole.j0 k n true s l) false :=
  Ev.step (f := fun _ => some false) (fun k => by simp only [impl_IsWhole.j0]; rw [if_pos trivial]) (ev_of fun _ => rfl)
theorem iIs (s : Int) (l : List Int) (hl : l.length ≤ 9223372036854775807) : Ev (fun k => impl_IsWhole.f k s l) (isW s l) := by
  unfold impl_IsWhole.f
  by_cases h1 : (l.length : Int) > 100
  · have : isW s l = false := by unfold isW; rw [if_neg (by omega), show decide (l.length ≤ 100) = false by simp; omega]; simp
    rw [this]; exact ifp h1 (j0_true _ _ _)
  · refine ifn h1 ?_
    by_cases h2 : s < -1
    · have : isW s l = false := by
        unfold isW
        have e1 : (s == 0) = false := by simp; omega
        have e2 : (s == 1 || s == -1) = false := by simp; omega
        rw [e1, e2]; split <;> simp
      rw [this]; exact ifp h2 (j0_true _ _ _)
    · refine ifn h2 ?_
      by_cases h3 : s > 1
      · have : isW s l = false := by
          unfold isW
          have e1 : (s == 0) = false := by simp; omega
          have e2 : (s == 1 || s == -1) = false := by simp; omega
          rw [e1, e2]; split <;> simp
        rw [this]; exact ifp h3 (j0_true _ _ _)
      · refine ifn h3 ?_
        by_cases h0 : l.length = 0
        · have e0 : ((l.length : Int) == 0) = true := beq_iff_eq.2 (by omega)
          rw [e0]
          by_cases hs : s = 0
          · subst hs
            have := impl_loop 0 l hl l.length 0 (by omega)
            rw [List.drop_zero] at this
            have e : isW 0 l = (digB l && (decide (l.length = 0) || (l.getD (l.length - 1) 0 != 0))) := by
              unfold isW; rw [if_pos h0]; simp only [h0, decide_true, Bool.true_or]; rfl
            rw [e]
            exact Ev.step (f := fun k => impl_IsWhole.l0 k (l.length : Int) l (l.length : Int) 0 0 l) (fun k => by simp only [impl_IsWhole.j0]; rw [if_neg (by simp)]) this
          · have e1 : (s == 0) = false := by simp; omega
            have : isW s l = false := by unfold isW; rw [if_pos h0, e1]; simp
            rw [this, e1]; exact j0_true _ _ _
        · have e0 : ((l.length : Int) == 0) = false := beq_eq_false_iff_ne.2 (by omega)
          rw [e0]
          by_cases hs : s = 0
          · subst hs
            have : isW 0 l = false := by unfold isW; rw [if_neg h0]; simp
            rw [this]; exact j0_true _ _ _
          · have e1 : (s == 0) = false := by simp; omega
            rw [e1]
            have := impl_loop s l hl l.length 0 (by omega)
            rw [List.drop_zero] at this
            have e2 : (s == 1 || s == -1) = true := by simp; omega
            have e : isW s l = (digB l && (decide (l.length = 0) || (l.getD (l.length - 1) 0 != 0))) := by
              unfold isW; rw [if_neg h0, e2, show decide (l.length ≤ 100) = true by simp; omega, decide_eq_false h0]; simp only [Bool.true_and, Bool.and_true, Bool.false_or]
            rw [e]
            exact Ev.step (f := fun k => impl_IsWhole.l0 k (l.length : Int) l (l.length : Int) 0 s l) (fun k => by simp only [impl_IsWhole.j0]; rw [if_neg (by simp)]) this
end Go.Proofs.YtjggbalhpflbbaaGreat.Pb
end
section
namespace Go.Proofs.YtjggbalhpflbbaaGreat.Pw
open Go.RowKit Go.Proofs.YtjggbalhpflbbaaGreatW.PrintWords Go.Proofs.YtjggbalhpflbbaaGreat.Pb Go.Proofs.YtjggbalhpflbbaaGreat.Pc Go.Proofs.YtjggbalhpflbbaaGreat.Pm Dg
set_option linter.unusedVariables false
set_option linter.unusedSimpArgs false
def wv (s : Int) (l : List Int) : Int := if s < 0 then -(val 16777216 l) else val 16777216 l
theorem digB_iff {l : List Int} : digB l = true ↔ Dig 16777216 l := by
  unfold digB Dig
  rw [List.all_eq_true]
  constructor
  · intro h d hd
    have := h d hd
    simp at this
    omega
  · intro h d hd
    have := h d hd
    simp
    omega
theorem isW_spec {s : Int} {l : List Int} (h : isW s l = true) : Dig 16777216 l ∧ l.length ≤ 100 ∧ Top l ∧ (l = [] ∧ s = 0 ∨ l ≠ [] ∧ (s = 1 ∨ s = -1)) := by
  unfold isW at h
  rw [Bool.and_eq_true] at h
  refine ⟨digB_iff.1 h.1, ?_⟩
  have h2 := h.2
  by_cases h0 : l.length = 0
  · rw [if_pos h0] at h2
    have hl : l = [] := List.length_eq_zero_iff.1 h0
    refine ⟨by omega, fun hne => absurd hl hne, .inl ⟨hl, by simpa using h2⟩⟩
  · rw [if_neg h0, Bool.and_eq_true, Bool.and_eq_true] at h2
    obtain ⟨⟨h3, h4⟩, h5⟩ := h2
    have hl : l ≠ [] := by rintro rfl; simp at h0
    refine ⟨by simpa using h3, top_iff.2 (.inr (by rw [bne_iff_ne] at h4; exact h4)), .inr ⟨hl, ?_⟩⟩
    rw [Bool.or_eq_true, beq_iff_eq, beq_iff_eq] at h5
    exact h5
theorem isW_mk {s : Int} {l : List Int} (hd : Dig 16777216 l) (hl : l.length ≤ 100) (ht : Top l) (hs : l = [] ∧ s = 0 ∨ l ≠ [] ∧ (s = 1 ∨ s = -1)) : isW s l = true := by
  unfold isW
  rw [Bool.and_eq_true]
  refine ⟨digB_iff.2 hd, ?_⟩
  rcases hs with ⟨rfl, rfl⟩ | ⟨hne, hs⟩
  · rfl
  · have h0 : ¬ l.length = 0 := fun h => hne (List.length_eq_zero_iff.1 h)
    rw [if_neg h0, Bool.and_eq_true, Bool.and_eq_true]
    refine ⟨⟨by simpa using hl, ?_⟩, ?_⟩
    · rw [bne_iff_ne]
      rcases top_iff.1 ht with h | h
      · exact absurd h hne
      · exact h
    · rw [Bool.or_eq_true, beq_iff_eq, beq_iff_eq]; exact hs
theorem isW_eq {s : Int} {l : List Int} (h : isW s l = true) : s = sgn (wv s l) ∧ l = L (wv s l).natAbs ∧ bl (wv s l).natAbs ≤ 2400 := by
  obtain ⟨hd, hl, ht, hs⟩ := isW_spec h
  have h0 := val_nonneg hd
  have habs : (wv s l).natAbs = (val 16777216 l).toNat := by unfold wv; split <;> omega
  have hL : l = L (wv s l).natAbs := by rw [habs]; exact (L_of hd ht).symm
  refine ⟨?_, hL, ?_⟩
  · rcases hs with ⟨rfl, rfl⟩ | ⟨hne, hs⟩
    · rfl
    · have hp := val_pos hd ht hne (by decide)
      rcases hs with rfl | rfl
      · have e : wv 1 l = val 16777216 l := by unfold wv; rw [if_neg (by decide)]
        rw [e]; unfold sgn; rw [if_neg (by omega), if_neg (by omega)]
      · have e : wv (-1) l = -(val 16777216 l) := by unfold wv; rw [if_pos (by decide)]
        rw [e]; unfold sgn; rw [if_pos (by omega)]
  · have := (L_len_iff (wv s l).natAbs 100).1 (by rw [← hL]; exact hl)
    omega
theorem isW_of (z : Int) : isW (sgn z) (L z.natAbs) = decide (bl z.natAbs ≤ 2400) := by
  by_cases h : bl z.natAbs ≤ 2400
  · rw [decide_eq_true h]
    refine isW_mk (L_dig _) ((L_len_iff _ 100).2 (by omega)) (L_top _) ?_
    by_cases h0 : z = 0
    · subst h0; exact .inl ⟨L_zero, rfl⟩
    · refine .inr ⟨fun e => h0 (by have := L_nil.1 e; omega), ?_⟩
      unfold sgn
      by_cases hn : z < 0
      · rw [if_pos hn]; simp
      · rw [if_neg hn, if_neg h0]; simp
  · rw [decide_eq_false h]
    cases hw : isW (sgn z) (L z.natAbs) with
    | false => rfl
    | true =>
      exfalso
      have := (isW_spec hw).2.1
      exact h (by have := (L_len_iff z.natAbs 100).1 this; omega)
def fit (z : Int) : Int × List Int × Int := if bl z.natAbs ≤ 2400 then (sgn z, L z.natAbs, 0) else (0, [], 3)
end Go.Proofs.YtjggbalhpflbbaaGreat.Pw
end
section
namespace Go.Proofs.YtjggbalhpflbbaaGreat.PW
open Go.RowKit Go.Proofs.YtjggbalhpflbbaaGreatW.PrintWords Go.Proofs.YtjggbalhpflbbaaGreatW.PrintLast Go.Proofs.YtjggbalhpflbbaaGreatW.PrintMore
attribute [local go_sem] max2_int min2_int max_two min_two max_three min_three max_four min_four   -- for this text's walks alone
set_option linter.unusedVariables false
set_option linter.unusedSimpArgs false
def spec_l02Neg.f (k : Nat) (a0_0 : Int) (l0_1 : List Int) : Option (Int × List Int) := (spec_l02Make.f k (wrap64 (-a0_0)) l0_1).bind fun bt333 => (some (bt333.1, bt333.2))
theorem spec_l02Neg.mono : ∀ a0 a1 k, LeO (spec_l02Neg.f k a0 a1) (spec_l02Neg.f (k + 1) a0 a1) := by
 intro a0 a1 k
 unfold spec_l02Neg.f
 repeat' first
   | (with_reducible exact spec_l02Make.mono _ _ _)
   | (with_reducible exact LeO.refl _)
   | (with_reducible exact LeO.none _)
   | (with_reducible refine LeO.ite ?_ ?_)
   | (with_reducible refine LeO.bind ?_ (fun _ => ?_))
   | exact spec_l02Make.mono _ _ _
   | exact LeO.none _
   | refine LeO.ite ?_ ?_
   | refine LeO.bind ?_ (fun _ => ?_)
set_option maxHeartbeats 8000000 in
set_option maxRecDepth 100000 in
theorem spec_l02Neg.calls (k : Nat) (a0_0 : Int) (A0_1 : Option Addr) (c0_1 : Nat) (l0_1 : List Int) (r1 : Int) (r2 : List Int) (w : World) (hr0_1 : Kd.C (Kd.int .i64) w A0_1 l0_1.length l0_1) (hc0_1 : l0_1.length ≤ c0_1) (h : spec_l02Neg.f k a0_0 l0_1 = some (r1, r2)) :
  Calls Tryz.prog 62 #[.agg #[.int .i64 a0_0, .slice A0_1 l0_1.length c0_1]] w fun e w' => ∃ v1_ : Value, e = .returned (.agg #[.int .i64 r1, v1_]) ∧ Kd.R (Kd.int .i64) 2 w' w.heap.size (fun _ => True) v1_ r2 ∧ Below w.heap.size w w' := by
 have hu28 := Tryz.underlying28
 have HR0_1 := Azq.mk hr0_1
 have HC0_1 := Azq.mk hc0_1
 clear hr0_1 hc0_1
 have HB := Azq.mk (Below.refl w.heap.size w)
 have H : ((spec_l02Make.f k (wrap64 (-a0_0)) l0_1).bind fun bt333 => (some (bt333.1, bt333.2))) = some (r1, r2) := h
 clear h
 replace H := Option.bind_eq_some_iff.mp H
 obtain ⟨⟨t333, t334⟩, A20, H⟩ := H
 replace H : (some (t333, t334)) = some (r1, r2) := H
 have A2 := Azq.mk A20
 clear A20
 simp only [Option.some.injEq, Prod.mk.injEq] at H
 obtain ⟨rfl, rfl⟩ := H
 go_enter Tryz.func62, Tryz.ntmps62
 go_wp2_with (first | ((with_reducible refine gate_dst (N := 1) rfl ?_); refine box_event ?hg (N := 1) ?hd (cs := #[.int .i64 a0_0, .slice A0_1 l0_1.length c0_1]) (t := 28) ?hr ?_; (case hd => rfl); (case hg => rfl); (case hr => first | (go_simp; done) | (go_simp; rfl)); intro gb331 hg w3 hbox hb; have n0_ := Azq.mk (wtq (by repeat (first | (with_reducible first | exact HB.out | apply waq | apply wdq | apply wrq) | exact HB.out)) hb); have n1_ := Azq.mk (hbox); have n2_ := Azq.mk ((by rw [hg]; exact (wzq (by repeat (first | (with_reducible first | exact HB.out | apply waq | apply wdq | apply wrq) | exact HB.out))) : w.heap.size ≤ gb331)); have n3_ := n2_; clear HB; have HB := n0_; have BK331 := n1_; have GW331 := n2_; have GE331 := n3_; clear n0_ n1_ n2_ n3_; clear hb hbox hg) | ((with_reducible refine gate_dst (N := 2) rfl ?_); refine box_event ?hg (N := 2) ?hd (cs := #[.int .i64 0, .slice none 0 0]) (t := 28) ?hr ?_; (case hd => rfl); (case hg => rfl); (case hr => first | (go_simp; done) | (go_simp; rfl)); intro gb332 hg w4 hbox hb; have n0_ := Azq.mk (kbq (g := gb331) (o := .cells #[.int .i64 a0_0, .slice A0_1 l0_1.length c0_1] 28 (0, 0)) (by (with_reducible repeat (first | refine kdq ?_ _ | refine krq ?_ | refine kaq ?_ _)); exact BK331.out) hb); have n1_ := Azq.mk (wtq (by repeat (first | (with_reducible first | exact HB.out | apply waq | apply wdq | apply wrq | refine wsq ?_ GE331.out) | exact HB.out)) hb); have n2_ := Azq.mk (hbox); have n3_ := Azq.mk ((by rw [hg]; exact (wzq (by repeat (first | (with_reducible first | exact HB.out | apply waq | apply wdq | apply wrq | refine wsq ?_ GE331.out) | exact HB.out))) : w.heap.size ≤ gb332)); have n4_ := n3_; have n5_ := Azq.mk ((by rw [hg]; exact Nat.ne_of_lt (klq (g := gb331) (o := .cells #[.int .i64 a0_0, .slice A0_1 l0_1.length c0_1] 28 (0, 0)) (by (with_reducible repeat (first | refine kdq ?_ _ | refine krq ?_ | refine kaq ?_ _)); exact BK331.out)) : gb331 ≠ gb332)); have n6_ := Azq.mk ((by rw [hg]; exact Nat.ne_of_gt (klq (g := gb331) (o := .cells #[.int .i64 a0_0, .slice A0_1 l0_1.length c0_1] 28 (0, 0)) (by (with_reducible repeat (first | refine kdq ?_ _ | refine krq ?_ | refine kaq ?_ _)); exact BK331.out)) : gb332 ≠ gb331)); clear BK331; clear HB; have BK331 := n0_; have HB := n1_; have BK332 := n2_; have GW332 := n3_; have GE332 := n4_; have NB331_332 := n5_; have NB332_331 := n6_; clear n0_ n1_ n2_ n3_ n4_ n5_ n6_; clear hb hbox hg; have hnb5 := NB331_332.out; have hnc5 := NB332_331.out; have hcz6_0 : w4.cell? ⟨gb331, 0, none⟩ = some (.int .i64 a0_0) := (kcq BK331.out 0).trans rfl; have hcz6_1 : w4.cell? ⟨gb331, 1, none⟩ = some (.slice A0_1 l0_1.length c0_1) := (kcq BK331.out 1).trans rfl; have hfz6_0 := kfq BK331.out 0; have hfz6_1 := kfq BK331.out 1) | ((with_reducible refine gate_callee (f := 65) rfl ?_); refine goesL_ (some 8) rfl rfl Tryz.func65 (by kernel_rfl) rfl #[.int .i64 (wrap64 (-a0_0)), .slice A0_1 l0_1.length c0_1] rfl (by (try simp only [List.map_toArray, List.map_cons, List.map_nil]); first | done | rfl | (simp only [List.length_drop, List.length_take]; rfl)) ?_; (with_reducible refine (spec_l02Make.calls k (wrap64 (-a0_0)) _ _ l0_1 t333 t334 _ ?side1 ?side2 A2.out).mono ?_); (case side1 => repeat (first | exact (Kd.C_below HR0_1.out HB.out) | (with_reducible refine Kd.C_alloc ?_ _) | (with_reducible refine Kd.C_drewN ?_ _) | (with_reducible refine Kd.C_drew ?_))); (case side2 => exact HC0_1.out); rintro e w7 ⟨v335, rfl, ho0, hb⟩; refine ⟨_, rfl, ?_⟩; have n0_ := Azq.mk (Kd.R_lower ho0 (wzq (by repeat (first | (with_reducible first | exact HB.out | apply waq | apply wdq | apply wrq | refine wsq ?_ GE331.out | refine wsq ?_ GE332.out) | exact HB.out)))); have n1_ := Azq.mk (kbq (g := gb331) (o := .cells #[.int .i64 a0_0, .slice A0_1 l0_1.length c0_1] 28 (0, 0)) (by (with_reducible repeat (first | refine kdq ?_ _ | refine krq ?_ | refine kaq ?_ _)); exact BK331.out) hb); have n2_ := Azq.mk (kbq (g := gb332) (o := .cells #[.int .i64 0, .slice none 0 0] 28 (0, 0)) (by (with_reducible repeat (first | refine kdq ?_ _ | refine krq ?_ | refine kaq ?_ _)); exact BK332.out) hb); have n3_ := Azq.mk (wtq (by repeat (first | (with_reducible first | exact HB.out | apply waq | apply wdq | apply wrq | refine wsq ?_ GE331.out | refine wsq ?_ GE332.out) | exact HB.out)) hb); clear BK331; clear BK332; clear HB; have HO336 := n0_; have BK331 := n1_; have BK332 := n2_; have HB := n3_; clear n0_ n1_ n2_ n3_; (try clear hb); (try clear hb2); (try clear hk); (try clear hi); (try clear ho0); have hcz8_0 : w7.cell? ⟨gb332, 0, none⟩ = some (.int .i64 0) := (kcq BK332.out 0).trans rfl; have hcz8_1 : w7.cell? ⟨gb332, 1, none⟩ = some (.slice none 0 0) := (kcq BK332.out 1).trans rfl; have hfz8_0 := kfq BK332.out 0; have hfz8_1 := kfq BK332.out 1; obtain ⟨Ao9, co9, eo9⟩ := Kd.R_slice HO336.out; subst eo9))
 refine bodyPost_ret (results_cell_row rfl _ _ gb332 28 #[.int .i64 t333, .slice Ao9 t334.length co9] (0, 0) _ rfl (by (with_reducible repeat (first | refine kdq ?_ _ | refine krq ?_ | refine kaq ?_ _)); refine blk_put (cs := #[.int .i64 t333, .slice none 0 0]) ?_ 1 _ rfl; (with_reducible repeat (first | refine kdq ?_ _ | refine krq ?_ | refine kaq ?_ _)); refine blk_put (cs := #[.int .i64 0, .slice none 0 0]) ?_ 0 _ rfl; (with_reducible repeat (first | refine kdq ?_ _ | refine krq ?_ | refine kaq ?_ _)); exact BK332.out) Tryz.underlying28 rfl (by kernel_rfl)) rfl ?_
 exact ⟨_, by first | rfl | (simp [errW_none, errW_some] <;> rfl) | (simp [*, errW_none, errW_some] <;> rfl), by (with_reducible repeat (first | apply Kd.R_alloc | apply Kd.R_drewN | apply Kd.R_drew)); exact Kd.R_mono (Kd.R_far (p := ⟨gb332, 1, none⟩) (Kd.R_far (p := ⟨gb332, 0, none⟩) (Kd.R_types HO336.out BK332.out (by decide)) (fun _ hk => hk.2) (.int .i64 t333)) (fun _ hk => hk.2) (.slice Ao9 t334.length co9)) (fun _ hk => trivial), by repeat (first | (with_reducible first | exact HB.out | apply waq | apply wdq | apply wrq | refine wsq ?_ GE331.out | refine wsq ?_ GE332.out) | exact HB.out)⟩
end Go.Proofs.YtjggbalhpflbbaaGreat.PW
end
section
namespace Go.Proofs.YtjggbalhpflbbaaGreat.PW
open Go.RowKit Go.Proofs.YtjggbalhpflbbaaGreatW.PrintWords Go.Proofs.YtjggbalhpflbbaaGreatW.PrintLast Go.Proofs.YtjggbalhpflbbaaGreatW.PrintMore
attribute [local go_sem] max2_int min2_int max_two min_two max_three min_three max_four min_four   -- for this text's walks alone
set_option linter.unusedVariables false
set_option linter.unusedSimpArgs false
def spec_l03Neg.f (k : Nat) (a0_0 : Int) (l0_1 : List Int) (a0_2 : Int) : Option (Int × List Int × Int) := (spec_l02Neg.f k a0_0 l0_1).bind fun bt339 => (some (bt339.1, bt339.2, a0_2))
theorem spec_l03Neg.mono : ∀ a0 a1 a2 k, LeO (spec_l03Neg.f k a0 a1 a2) (spec_l03Neg.f (k + 1) a0 a1 a2) := by
 intro a0 a1 a2 k
 unfold spec_l03Neg.f
 repeat' first
   | (with_reducible exact spec_l02Neg.mono _ _ _)
   | (with_reducible exact LeO.refl _)
   | (with_reducible exact LeO.none _)
   | (with_reducible refine LeO.ite ?_ ?_)
   | (with_reducible refine LeO.bind ?_ (fun _ => ?_))
   | exact spec_l02Neg.mono _ _ _
   | exact LeO.none _
   | refine LeO.ite ?_ ?_
   | refine LeO.bind ?_ (fun _ => ?_)
set_option maxHeartbeats 8000000 in
set_option maxRecDepth 100000 in
theorem spec_l03Neg.calls (k : Nat) (a0_0 : Int) (A0_1 : Option Addr) (c0_1 : Nat) (l0_1 : List Int) (a0_2 : Int) (r1 : Int) (r2 : List Int) (r3 : Int) (w : World) (hr0_1 : Kd.C (Kd.int .i64) w A0_1 l0_1.length l0_1) (hc0_1 : l0_1.length ≤ c0_1) (h : spec_l03Neg.f k a0_0 l0_1 a0_2 = some (r1, r2, r3)) :
  Calls Tryz.prog 35 #[.agg #[.int .i64 a0_0, .slice A0_1 l0_1.length c0_1, .int .i64 a0_2]] w fun e w' => ∃ v1_ : Value, e = .returned (.agg #[.int .i64 r1, v1_, .int .i64 r3]) ∧ Kd.R (Kd.int .i64) 2 w' w.heap.size (fun _ => True) v1_ r2 ∧ Below w.heap.size w w' := by
 have hu30 := Tryz.underlying30
 have hu28 := Tryz.underlying28
 have HR0_1 := Azq.mk hr0_1
 have HC0_1 := Azq.mk hc0_1
 clear hr0_1 hc0_1
 have HB := Azq.mk (Below.refl w.heap.size w)
 have H : ((spec_l02Neg.f k a0_0 l0_1).bind fun bt339 => (some (bt339.1, bt339.2, a0_2))) = some (r1, r2, r3) := h
 clear h
 replace H := Option.bind_eq_some_iff.mp H
 obtain ⟨⟨t339, t340⟩, A20, H⟩ := H
 replace H : (some (t339, t340, a0_2)) = some (r1, r2, r3) := H
 have A2 := Azq.mk A20
 clear A20
 simp only [Option.some.injEq, Prod.mk.injEq] at H
 obtain ⟨rfl, rfl, rfl⟩ := H
 go_enter Tryz.func35, Tryz.ntmps35
 try go_wp2_with (first | ((with_reducible refine gate_dst (N := 1) rfl ?_); refine box_event ?hg (N := 1) ?hd (cs := #[.int .i64 a0_0, .slice A0_1 l0_1.length c0_1, .int .i64 a0_2]) (t := 30) ?hr ?_; (case hd => rfl); (case hg => rfl); (case hr => first | (go_simp; done) | (go_simp; rfl)); intro gb337 hg w3 hbox hb; have n0_ := Azq.mk (wtq (by repeat (first | (with_reducible first | exact HB.out | apply waq | apply wdq | apply wrq) | exact HB.out)) hb); have n1_ := Azq.mk (hbox); have n2_ := Azq.mk ((by rw [hg]; exact (wzq (by repeat (first | (with_reducible first | exact HB.out | apply waq | apply wdq | apply wrq) | exact HB.out))) : w.heap.size ≤ gb337)); have n3_ := n2_; clear HB; have HB := n0_; have BK337 := n1_; have GW337 := n2_; have GE337 := n3_; clear n0_ n1_ n2_ n3_; clear hb hbox hg) | ((with_reducible refine gate_dst (N := 2) rfl ?_); refine box_event ?hg (N := 2) ?hd (cs := #[.int .i64 0, .slice none 0 0, .int .i64 0]) (t := 30) ?hr ?_; (case hd => rfl); (case hg => rfl); (case hr => first | (go_simp; done) | (go_simp; rfl)); intro gb338 hg w4 hbox hb; have n0_ := Azq.mk (kbq (g := gb337) (o := .cells #[.int .i64 a0_0, .slice A0_1 l0_1.length c0_1, .int .i64 a0_2] 30 (0, 0)) (by (with_reducible repeat (first | refine kdq ?_ _ | refine krq ?_ | refine kaq ?_ _)); exact BK337.out) hb); have n1_ := Azq.mk (wtq (by repeat (first | (with_reducible first | exact HB.out | apply waq | apply wdq | apply wrq | refine wsq ?_ GE337.out) | exact HB.out)) hb); have n2_ := Azq.mk (hbox); have n3_ := Azq.mk ((by rw [hg]; exact (wzq (by repeat (first | (with_reducible first | exact HB.out | apply waq | apply wdq | apply wrq | refine wsq ?_ GE337.out) | exact HB.out))) : w.heap.size ≤ gb338)); have n4_ := n3_; have n5_ := Azq.mk ((by rw [hg]; exact Nat.ne_of_lt (klq (g := gb337) (o := .cells #[.int .i64 a0_0, .slice A0_1 l0_1.length c0_1, .int .i64 a0_2] 30 (0, 0)) (by (with_reducible repeat (first | refine kdq ?_ _ | refine krq ?_ | refine kaq ?_ _)); exact BK337.out)) : gb337 ≠ gb338)); have n6_ := Azq.mk ((by rw [hg]; exact Nat.ne_of_gt (klq (g := gb337) (o := .cells #[.int .i64 a0_0, .slice A0_1 l0_1.length c0_1, .int .i64 a0_2] 30 (0, 0)) (by (with_reducible repeat (first | refine kdq ?_ _ | refine krq ?_ | refine kaq ?_ _)); exact BK337.out)) : gb338 ≠ gb337)); clear BK337; clear HB; have BK337 := n0_; have HB := n1_; have BK338 := n2_; have GW338 := n3_; have GE338 := n4_; have NB337_338 := n5_; have NB338_337 := n6_; clear n0_ n1_ n2_ n3_ n4_ n5_ n6_; clear hb hbox hg))
 have n0_ := Azq.mk (krq BK337.out)
 have n1_ := Azq.mk (krq BK338.out)
 have n2_ := Azq.mk (wrq HB.out)
 clear BK337
 clear BK338
 clear HB
 have BK337 := n0_
 have BK338 := n1_
 have HB := n2_
 clear n0_ n1_ n2_
 refine start_ (n := 7) (S := fun w' => w'.cell? ⟨gb337, 0, none⟩ = some (.int .i64 a0_0) ∧ w'.cell? ⟨gb337, 1, none⟩ = some (.slice A0_1 l0_1.length c0_1) ∧ w'.cell? ⟨gb337, 2, none⟩ = some (.int .i64 a0_2)) (ds := []) #[false, false, false, false, false, false, false] (by kernel_rfl) rfl rfl ⟨(kcq BK337.out 0).trans rfl, (kcq BK337.out 1).trans rfl, (kcq BK337.out 2).trans rfl⟩ (fun hHeld => ?_)
 generalize w4.drew = w5 at BK337 BK338 HB hHeld ⊢
 refine pure_ (i := 0) (N := some 3) (v := ?_) (a' := ?_) #[true, false, false, false, false, false, false] rfl rfl (by kernel_rfl) (fun _ _ _ h => h) (Or.inl ⟨by rfl, ?_⟩) ?_ ?_
 rotate_left
 ·intro w'
  go_simp
  with_reducible rfl
 rotate_left
 ·simp only [Act.put, List.setIfInBounds_toArray, List.set_cons_zero, List.set_cons_succ, i64_w, i32_w]
  rfl
 refine pure_ (i := 3) (N := some 6) (v := ?_) (a' := ?_) #[true, false, false, true, false, false, false] rfl rfl (by kernel_rfl) (fun _ _ _ h => h) (Or.inl ⟨by rfl, ?_⟩) ?_ ?_
 rotate_left
 ·intro w'
  go_simp
  with_reducible rfl
 rotate_left
 ·simp only [Act.put, List.setIfInBounds_toArray, List.set_cons_zero, List.set_cons_succ, i64_w, i32_w]
  rfl
 refine take_ (i := 1) (N := some 4) (v := ?_) (a' := ?_) #[true, true, false, true, false, false, false] rfl rfl (by kernel_rfl) (fun _ _ _ h => h) (Or.inl ⟨by rfl, ?_⟩) hHeld ?_ ?_
 rotate_left
 ·rintro w' ⟨s0, s1, s2⟩
  go_simp
  with_reducible rfl
 rotate_left
 ·simp only [Act.put, List.setIfInBounds_toArray, List.set_cons_zero, List.set_cons_succ, i64_w, i32_w]
  rfl
 refine take_ (i := 4) (N := some 7) (v := ?_) (a' := ?_) #[true, true, false, true, true, false, false] rfl rfl (by kernel_rfl) (fun _ _ _ h => h) (Or.inl ⟨by rfl, ?_⟩) hHeld ?_ ?_
 rotate_left
 ·rintro w' ⟨s0, s1, s2⟩
  go_simp
  with_reducible rfl
 rotate_left
 ·simp only [Act.put, List.setIfInBounds_toArray, List.set_cons_zero, List.set_cons_succ, i64_w, i32_w]
  rfl
 refine one_ (i := 2) (N := some 5) #[true, true, true, true, true, false, false] rfl rfl (by kernel_rfl) (by decide) (fun K hK => ?_)
 refine goes_ Tryz.func62 (by kernel_rfl) rfl #[.agg #[.int .i64 a0_0, .slice A0_1 l0_1.length c0_1]] (by rfl) rfl rfl (by (try simp only [List.map_toArray, List.map_cons, List.map_nil]); first | done | rfl | (simp only [List.length_drop, List.length_take]; rfl)) ?_
 with_reducible refine (spec_l02Neg.calls k a0_0 _ _ l0_1 t339 t340 _ ?side1 ?side2 A2.out).mono ?_
 (case side1 => repeat (first | exact (Kd.C_below HR0_1.out HB.out) | (with_reducible refine Kd.C_alloc ?_ _) | (with_reducible refine Kd.C_drewN ?_ _) | (with_reducible refine Kd.C_drew ?_)))
 (case side2 => exact HC0_1.out)
 rintro e w6 ⟨v341, rfl, ho0, hb⟩
 refine ⟨_, rfl, ?_⟩
 have n0_ := Azq.mk (Kd.R_lower ho0 (wzq (by repeat (first | (with_reducible first | exact HB.out | apply waq | apply wdq | apply wrq | refine wsq ?_ GE337.out | refine wsq ?_ GE338.out) | exact HB.out))))
 have n1_ := Azq.mk (kbq (g := gb337) (o := .cells #[.int .i64 a0_0, .slice A0_1 l0_1.length c0_1, .int .i64 a0_2] 30 (0, 0)) (by (with_reducible repeat (first | refine kdq ?_ _ | refine krq ?_ | refine kaq ?_ _)); exact BK337.out) hb)
 have n2_ := Azq.mk (kbq (g := gb338) (o := .cells #[.int .i64 0, .slice none 0 0, .int .i64 0] 30 (0, 0)) (by (with_reducible repeat (first | refine kdq ?_ _ | refine krq ?_ | refine kaq ?_ _)); exact BK338.out) hb)
 have n3_ := Azq.mk (wtq (by repeat (first | (with_reducible first | exact HB.out | apply waq | apply wdq | apply wrq | refine wsq ?_ GE337.out | refine wsq ?_ GE338.out) | exact HB.out)) hb)
 clear BK337
 clear BK338
 clear HB
 have HO342 := n0_
 have BK337 := n1_
 have BK338 := n2_
 have HB := n3_
 clear n0_ n1_ n2_ n3_
 (try clear hb)
 (try clear hb2)
 (try clear hk)
 (try clear hi)
 (try clear ho0)
 obtain ⟨Ao7, co7, eo7⟩ := Kd.R_slice HO342.out
 (first | subst eo7 | (injection eo7 with f1_ f2_ f3_; have f4_ := f1_.symm; have f5_ := f3_.symm; clear f1_ f2_ f3_; subst f4_; subst f5_))
 refine hK.out _ _ ⟨(kcq BK337.out 0).trans rfl, (kcq BK337.out 1).trans rfl, (kcq BK337.out 2).trans rfl⟩ (fun hHeld => ?_)
 clear hK K
 refine norm_ (a' := ?_) ?_ ?_
 rotate_left
 ·show Act.put _ (some 5) _ = _
  simp only [Act.put, List.setIfInBounds_toArray, List.set_cons_zero, List.set_cons_succ, i64_w, i32_w]
  rfl
 refine pure_ (i := 5) (N := some 8) (v := ?_) (a' := ?_) #[true, true, true, true, true, true, false] rfl rfl (by kernel_rfl) (fun _ _ _ h => h) (Or.inl ⟨by rfl, ?_⟩) ?_ ?_
 rotate_left
 ·intro w'
  go_simp
  with_reducible rfl
 rotate_left
 ·simp only [Act.put, List.setIfInBounds_toArray, List.set_cons_zero, List.set_cons_succ, i64_w, i32_w]
  rfl
 refine one_ (i := 6) (N := none) #[true, true, true, true, true, true, true] rfl rfl (by kernel_rfl) (by decide) (fun K hK => ?_)
 have hs8 : w6.cell? ⟨gb338, 0, none⟩ = some (.int .i64 0) := (kcq BK338.out 0).trans rfl
 have hfs8 := kfq BK338.out 0
 have hns8_0 := NB337_338.out
 have hms8_0 := NB338_337.out
 have hs9 : w6.cell? ⟨gb338, 1, none⟩ = some (.slice none 0 0) := (kcq BK338.out 1).trans rfl
 have hfs9 := kfq BK338.out 1
 have hns9_0 := NB337_338.out
 have hms9_0 := NB338_337.out
 have hs10 : w6.cell? ⟨gb338, 2, none⟩ = some (.int .i64 0) := (kcq BK338.out 2).trans rfl
 have hfs10 := kfq BK338.out 2
 have hns10_0 := NB337_338.out
 have hms10_0 := NB338_337.out
 refine skip_ (w1 := ?_) (by rfl) rfl ?_ ?_
 rotate_left
 ·go_simp
  rfl
 refine hK.out _ _ ⟨((cell_far (p := ⟨gb338, _, none⟩) NB337_338.out _).trans (((cell_far (p := ⟨gb338, _, none⟩) NB337_338.out _).trans (((cell_far (p := ⟨gb338, _, none⟩) NB337_338.out _).trans (hHeld.1)))))), ((cell_far (p := ⟨gb338, _, none⟩) NB337_338.out _).trans (((cell_far (p := ⟨gb338, _, none⟩) NB337_338.out _).trans (((cell_far (p := ⟨gb338, _, none⟩) NB337_338.out _).trans (hHeld.2.1)))))), ((cell_far (p := ⟨gb338, _, none⟩) NB337_338.out _).trans (((cell_far (p := ⟨gb338, _, none⟩) NB337_338.out _).trans (((cell_far (p := ⟨gb338, _, none⟩) NB337_338.out _).trans (hHeld.2.2))))))⟩ (fun hHeld => ?_)
 clear hK K
 refine done_ (by kernel_rfl) ?_
 try go_wp2
 refine bodyPost_ret (results_cell_row rfl _ _ gb338 30 #[.int .i64 t339, .slice Ao7 t340.length co7, .int .i64 a0_2] (0, 0) _ rfl (by (with_reducible repeat (first | refine kdq ?_ _ | refine krq ?_ | refine kaq ?_ _)); refine blk_put (cs := #[.int .i64 t339, .slice Ao7 t340.length co7, .int .i64 0]) ?_ 2 _ rfl; (with_reducible repeat (first | refine kdq ?_ _ | refine krq ?_ | refine kaq ?_ _)); refine blk_put (cs := #[.int .i64 t339, .slice none 0 0, .int .i64 0]) ?_ 1 _ rfl; (with_reducible repeat (first | refine kdq ?_ _ | refine krq ?_ | refine kaq ?_ _)); refine blk_put (cs := #[.int .i64 0, .slice none 0 0, .int .i64 0]) ?_ 0 _ rfl; (with_reducible repeat (first | refine kdq ?_ _ | refine krq ?_ | refine kaq ?_ _)); exact BK338.out) Tryz.underlying30 rfl (by kernel_rfl)) rfl ?_
 exact ⟨_, by first | rfl | (simp [errW_none, errW_some] <;> rfl) | (simp [*, errW_none, errW_some] <;> rfl), by (with_reducible repeat (first | apply Kd.R_alloc | apply Kd.R_drewN | apply Kd.R_drew)); exact Kd.R_mono (Kd.R_far (p := ⟨gb338, 2, none⟩) (Kd.R_far (p := ⟨gb338, 1, none⟩) (Kd.R_far (p := ⟨gb338, 0, none⟩) (Kd.R_types HO342.out BK338.out (by decide)) (fun _ hk => hk.2) (.int .i64 t339)) (fun _ hk => hk.2) (.slice Ao7 t340.length co7)) (fun _ hk => hk.2) (.int .i64 a0_2)) (fun _ hk => trivial), by repeat (first | (with_reducible first | exact HB.out | apply waq | apply wdq | apply wrq | refine wsq ?_ GE337.out | refine wsq ?_ GE338.out) | exact HB.out)⟩
end Go.Proofs.YtjggbalhpflbbaaGreat.PW
end
section
namespace Go.Proofs.YtjggbalhpflbbaaGreat.PW
open Go.RowKit Go.Proofs.YtjggbalhpflbbaaGreatW.PrintWords Go.Proofs.YtjggbalhpflbbaaGreatW.PrintLast Go.Proofs.YtjggbalhpflbbaaGreatW.PrintMore
attribute [local go_sem] max2_int min2_int max_two min_two max_three min_three max_four min_four   -- for this text's walks alone
set_option linter.unusedVariables false
set_option linter.unusedSimpArgs false
def spec_l02Twos.l0 : Nat → Int → Int → List Int → Option (Int)
 | 0, _, _, _ => none
 | k + 1, x3, x293000, x293001 => (spec_l02Bit.f x293000 x293001 x3).bind fun t293 => (if t293 = 0 then (spec_l02Twos.l0 k (wrap64 (x3 + 1)) x293000 x293001) else (some x3))
def spec_l02Twos.f (k : Nat) (a0_0 : Int) (l0_1 : List Int) : Option (Int) := spec_l02Twos.l0 k 0 a0_0 l0_1
theorem spec_l02Twos.mono_l : ∀ k, (∀ y0 y1 y2, LeO (spec_l02Twos.l0 k y0 y1 y2) (spec_l02Twos.l0 (k + 1) y0 y1 y2))
 | 0 => fun _ _ _ r h => by simp [spec_l02Twos.l0] at h
 | k + 1 => by
  have ih0 := spec_l02Twos.mono_l k
  ·intro y0 y1 y2
   unfold spec_l02Twos.l0
   repeat' first
   | (with_reducible exact ih0 _ _ _)
   | (with_reducible exact LeO.refl _)
   | (with_reducible exact LeO.none _)
   | (with_reducible refine LeO.ite ?_ ?_)
   | (with_reducible refine LeO.bind ?_ (fun _ => ?_))
   | exact ih0 _ _ _
   | exact LeO.none _
   | refine LeO.ite ?_ ?_
   | refine LeO.bind ?_ (fun _ => ?_)
theorem spec_l02Twos.mono : ∀ a0 a1 k, LeO (spec_l02Twos.f k a0 a1) (spec_l02Twos.f (k + 1) a0 a1) := by
 intro a0 a1 k
 have ih0 := spec_l02Twos.mono_l k
 unfold spec_l02Twos.f
 repeat' first
   | (with_reducible exact ih0 _ _ _)
   | (with_reducible exact LeO.refl _)
   | (with_reducible exact LeO.none _)
   | (with_reducible refine LeO.ite ?_ ?_)
   | (with_reducible refine LeO.bind ?_ (fun _ => ?_))
   | exact ih0 _ _ _
   | exact LeO.none _
   | refine LeO.ite ?_ ?_
   | refine LeO.bind ?_ (fun _ => ?_)
set_option maxHeartbeats 8000000 in
set_option maxRecDepth 100000 in
theorem spec_l02Twos.calls (k : Nat) (a0_0 : Int) (A0_1 : Option Addr) (c0_1 : Nat) (l0_1 : List Int) (r : Int) (w : World) (hr0_1 : Kd.C (Kd.int .i64) w A0_1 l0_1.length l0_1) (hc0_1 : l0_1.length ≤ c0_1) (h : spec_l02Twos.f k a0_0 l0_1 = some r) :
  Calls Tryz.prog 64 #[.agg #[.int .i64 a0_0, .slice A0_1 l0_1.length c0_1]] w fun e w' => e = .returned (.int .i64 r) ∧ Below w.heap.size w w' := by
 have hu28 := Tryz.underlying28
 have HR0_1 := Azq.mk hr0_1
 have HC0_1 := Azq.mk hc0_1
 clear hr0_1 hc0_1
 have HB := Azq.mk (Below.refl w.heap.size w)
 have H : (spec_l02Twos.l0 k 0 a0_0 l0_1) = some r := h
 clear h
 have H' := Azq.mk H
 clear H
 go_enter Tryz.func64, Tryz.ntmps64
 go_wp2_with (first | ((with_reducible refine gate_dst (N := 1) rfl ?_); refine box_event ?hg (N := 1) ?hd (cs := #[.int .i64 a0_0, .slice A0_1 l0_1.length c0_1]) (t := 28) ?hr ?_; (case hd => rfl); (case hg => rfl); (case hr => first | (go_simp; done) | (go_simp; rfl)); intro gb292 hg w2 hbox hb; have n0_ := Azq.mk (wtq (by repeat (first | (with_reducible first | exact HB.out | apply waq | apply wdq | apply wrq) | exact HB.out)) hb); have n1_ := Azq.mk (hbox); have n2_ := Azq.mk ((by rw [hg]; exact (wzq (by repeat (first | (with_reducible first | exact HB.out | apply waq | apply wdq | apply wrq) | exact HB.out))) : w.heap.size ≤ gb292)); have n3_ := n2_; clear HB; have HB := n0_; have BK292 := n1_; have GW292 := n2_; have GE292 := n3_; clear n0_ n1_ n2_ n3_; clear hb hbox hg))
 go_loopg [3] k (fun kq v3 w' => ∃ (x3_1 : Int), v3 = .int .i64 x3_1 ∧ Azq (spec_l02Twos.l0 kq x3_1 a0_0 l0_1 = some r) ∧ Azq (kq ≤ k) ∧ Azq (w'.heap[gb292]? = some (.cells #[.int .i64 a0_0, (.slice A0_1 l0_1.length c0_1)] 28 (0, 0))) ∧ Azq (Below w.heap.size w w'))
 case atStart => exact ⟨(0), (by first | rfl | (simp; done) | (simp [*]; done)), H', ⟨Nat.le_refl _⟩, ⟨by (with_reducible repeat (first | refine kdq ?_ _ | refine krq ?_ | refine kaq ?_ _)); exact BK292.out⟩, ⟨by repeat (first | (with_reducible first | exact HB.out | apply waq | apply wdq | apply wrq | refine wsq ?_ GE292.out) | exact HB.out)⟩⟩
 case round =>
  clear H'
  try clear p2
  obtain ⟨x3_1, rfl, HA, HK1, BK292, HB⟩ := hrel
  cases gk with
  | zero => exact absurd HA.out (by simp [spec_l02Twos.l0])
  | succ k1 =>
   have H := HA.out
   clear HA
   simp only [spec_l02Twos.l0] at H
   replace H := Option.bind_eq_some_iff.mp H
   obtain ⟨t293, A30, H⟩ := H
   replace H : (if t293 = 0 then (spec_l02Twos.l0 k1 (wrap64 (x3_1 + 1)) a0_0 l0_1) else (some x3_1)) = some r := H
   have A3 := Azq.mk A30
   clear A30
   by_cases c4 : t293 = 0
   ·rw [if_pos c4] at H
    have c4b0 : (t293 == 0) = true := beq_iff_eq.mpr c4
    have c4b1 : (t293 != 0) = false := bne_eq_false_iff_eq.mpr c4
    clear c4
    have H' := Azq.mk H
    clear H
    have hcz5_0 : wr.cell? ⟨gb292, 0, none⟩ = some (.int .i64 a0_0) := (kcq BK292.out 0).trans rfl
    have hcz5_1 : wr.cell? ⟨gb292, 1, none⟩ = some (.slice A0_1 l0_1.length c0_1) := (kcq BK292.out 1).trans rfl
    have hfz5_0 := kfq BK292.out 0
    have hfz5_1 := kfq BK292.out 1
    go_wp2_with (first | ((with_reducible refine gate_callee (f := 58) rfl ?_); refine goesL_ (some 6) rfl rfl Tryz.func58 (by kernel_rfl) rfl #[.agg #[.int .i64 a0_0, .slice A0_1 l0_1.length c0_1], .int .i64 x3_1] rfl (by (try simp only [List.map_toArray, List.map_cons, List.map_nil]); first | done | rfl | (simp only [List.length_drop, List.length_take]; rfl)) ?_; (with_reducible refine (spec_l02Bit.calls a0_0 _ _ l0_1 x3_1 t293 _ ?side1 ?side2 A3.out).mono ?_); (case side1 => repeat (first | exact (Kd.C_below HR0_1.out HB.out) | (with_reducible refine Kd.C_alloc ?_ _) | (with_reducible refine Kd.C_drewN ?_ _) | (with_reducible refine Kd.C_drew ?_))); (case side2 => exact HC0_1.out); rintro e w6 ⟨rfl, hb⟩; refine ⟨_, rfl, ?_⟩; have n0_ := Azq.mk (kbq (g := gb292) (o := .cells #[.int .i64 a0_0, .slice A0_1 l0_1.length c0_1] 28 (0, 0)) (by (with_reducible repeat (first | refine kdq ?_ _ | refine krq ?_ | refine kaq ?_ _)); exact BK292.out) hb); have n1_ := Azq.mk (wtq (by repeat (first | (with_reducible first | exact HB.out | apply waq | apply wdq | apply wrq | refine wsq ?_ GE292.out) | exact HB.out)) hb); clear BK292; clear HB; have BK292 := n0_; have HB := n1_; clear n0_ n1_; (try clear hb); (try clear hb2); (try clear hk); (try clear hi)))
    go_roundg k1
    case measure => have := HK1.out; omega
    case rel => exact ⟨(wrap64 (x3_1 + 1)), (by first | rfl | (simp; done) | (simp [*]; done)), H', ⟨by have := HK1.out; omega⟩, ⟨by (with_reducible repeat (first | refine kdq ?_ _ | refine krq ?_ | refine kaq ?_ _)); exact BK292.out⟩, ⟨by repeat (first | (with_reducible first | exact HB.out | apply waq | apply wdq | apply wrq | refine wsq ?_ GE292.out) | exact HB.out)⟩⟩
   ·rw [if_neg c4] at H
    have c4b0 : (t293 == 0) = false := beq_eq_false_iff_ne.mpr c4
    have c4b1 : (t293 != 0) = true := bne_iff_ne.mpr c4
    obtain rfl := Option.some.inj H
    have hcz7_0 : wr.cell? ⟨gb292, 0, none⟩ = some (.int .i64 a0_0) := (kcq BK292.out 0).trans rfl
    have hcz7_1 : wr.cell? ⟨gb292, 1, none⟩ = some (.slice A0_1 l0_1.length c0_1) := (kcq BK292.out 1).trans rfl
    have hfz7_0 := kfq BK292.out 0
    have hfz7_1 := kfq BK292.out 1
    go_wp2_with (first | ((with_reducible refine gate_callee (f := 58) rfl ?_); refine goesL_ (some 6) rfl rfl Tryz.func58 (by kernel_rfl) rfl #[.agg #[.int .i64 a0_0, .slice A0_1 l0_1.length c0_1], .int .i64 x3_1] rfl (by (try simp only [List.map_toArray, List.map_cons, List.map_nil]); first | done | rfl | (simp only [List.length_drop, List.length_take]; rfl)) ?_; (with_reducible refine (spec_l02Bit.calls a0_0 _ _ l0_1 x3_1 t293 _ ?side1 ?side2 A3.out).mono ?_); (case side1 => repeat (first | exact (Kd.C_below HR0_1.out HB.out) | (with_reducible refine Kd.C_alloc ?_ _) | (with_reducible refine Kd.C_drewN ?_ _) | (with_reducible refine Kd.C_drew ?_))); (case side2 => exact HC0_1.out); rintro e w8 ⟨rfl, hb⟩; refine ⟨_, rfl, ?_⟩; have n0_ := Azq.mk (kbq (g := gb292) (o := .cells #[.int .i64 a0_0, .slice A0_1 l0_1.length c0_1] 28 (0, 0)) (by (with_reducible repeat (first | refine kdq ?_ _ | refine krq ?_ | refine kaq ?_ _)); exact BK292.out) hb); have n1_ := Azq.mk (wtq (by repeat (first | (with_reducible first | exact HB.out | apply waq | apply wdq | apply wrq | refine wsq ?_ GE292.out) | exact HB.out)) hb); clear BK292; clear HB; have BK292 := n0_; have HB := n1_; clear n0_ n1_; (try clear hb); (try clear hb2); (try clear hk); (try clear hi)))
    go_ret
    exact ⟨by first | rfl | (simp [errW_none, errW_some] <;> rfl) | (simp [*, errW_none, errW_some] <;> rfl), by repeat (first | (with_reducible first | exact HB.out | apply waq | apply wdq | apply wrq | refine wsq ?_ GE292.out) | exact HB.out)⟩
end Go.Proofs.YtjggbalhpflbbaaGreat.PW
end
section
namespace Go.Proofs.YtjggbalhpflbbaaGreat.PW
open Go.RowKit Go.Proofs.YtjggbalhpflbbaaGreatW.PrintWords Go.Proofs.YtjggbalhpflbbaaGreatW.PrintLast Go.Proofs.YtjggbalhpflbbaaGreatW.PrintMore
attribute [local go_sem] max2_int min2_int max_two min_two max_three min_three max_four min_four   -- for this text's walks alone
set_option linter.unusedVariables false
set_option linter.unusedSimpArgs false
def spec_l03Make.f (k : Nat) (a0_0 : Int) (l0_1 : List Int) (a1 : Int) : Option (Int × List Int × Int) := if a0_0 = 0 then (some (0, ([] : List Int), 0)) else ((spec_l02Twos.f k a0_0 l0_1).bind fun t296 => ((spec_l02Cut.f k a0_0 l0_1 t296).bind fun bt297 => (some (bt297.1, bt297.2, wrap64 (a1 + t296)))))
theorem spec_l03Make.mono : ∀ a0 a1 a2 k, LeO (spec_l03Make.f k a0 a1 a2) (spec_l03Make.f (k + 1) a0 a1 a2) := by
 intro a0 a1 a2 k
 unfold spec_l03Make.f
 repeat' first
   | (with_reducible exact spec_l02Cut.mono _ _ _ _)
   | (with_reducible exact spec_l02Twos.mono _ _ _)
   | (with_reducible exact LeO.refl _)
   | (with_reducible exact LeO.none _)
   | (with_reducible refine LeO.ite ?_ ?_)
   | (with_reducible refine LeO.bind ?_ (fun _ => ?_))
   | exact spec_l02Cut.mono _ _ _ _
   | exact spec_l02Twos.mono _ _ _
   | exact LeO.none _
   | refine LeO.ite ?_ ?_
   | refine LeO.bind ?_ (fun _ => ?_)
set_option maxHeartbeats 8000000 in
set_option maxRecDepth 100000 in
theorem spec_l03Make.calls (k : Nat) (a0_0 : Int) (A0_1 : Option Addr) (c0_1 : Nat) (l0_1 : List Int) (a1 : Int) (r1 : Int) (r2 : List Int) (r3 : Int) (w : World) (hr0_1 : Kd.C (Kd.int .i64) w A0_1 l0_1.length l0_1) (hc0_1 : l0_1.length ≤ c0_1) (h : spec_l03Make.f k a0_0 l0_1 a1 = some (r1, r2, r3)) :
  Calls Tryz.prog 37 #[.agg #[.int .i64 a0_0, .slice A0_1 l0_1.length c0_1], .int .i64 a1] w fun e w' => ∃ v1_ : Value, e = .returned (.agg #[.int .i64 r1, v1_, .int .i64 r3]) ∧ Kd.R (Kd.int .i64) 2 w' w.heap.size (fun _ => True) v1_ r2 ∧ Below w.heap.size w w' := by
 have hu28 := Tryz.underlying28
 have hu30 := Tryz.underlying30
 have HR0_1 := Azq.mk hr0_1
 have HC0_1 := Azq.mk hc0_1
 clear hr0_1 hc0_1
 have HB := Azq.mk (Below.refl w.heap.size w)
 have H : (if a0_0 = 0 then (some (0, ([] : List Int), 0)) else ((spec_l02Twos.f k a0_0 l0_1).bind fun t296 => ((spec_l02Cut.f k a0_0 l0_1 t296).bind fun bt297 => (some (bt297.1, bt297.2, wrap64 (a1 + t296)))))) = some (r1, r2, r3) := h
 clear h
 by_cases c3 : a0_0 = 0
 ·rw [if_pos c3] at H
  have c3b0 : (a0_0 == 0) = true := beq_iff_eq.mpr c3
  have c3b1 : (a0_0 != 0) = false := bne_eq_false_iff_eq.mpr c3
  clear c3
  simp only [Option.some.injEq, Prod.mk.injEq] at H
  obtain ⟨rfl, rfl, rfl⟩ := H
  go_enter Tryz.func37, Tryz.ntmps37
  go_wp2_with (first | ((with_reducible refine gate_dst (N := 2) rfl ?_); refine box_event ?hg (N := 2) ?hd (cs := #[.int .i64 a0_0, .slice A0_1 l0_1.length c0_1]) (t := 28) ?hr ?_; (case hd => rfl); (case hg => rfl); (case hr => first | (go_simp; done) | (go_simp; rfl)); intro gb294 hg w4 hbox hb; have n0_ := Azq.mk (wtq (by repeat (first | (with_reducible first | exact HB.out | apply waq | apply wdq | apply wrq) | exact HB.out)) hb); have n1_ := Azq.mk (hbox); have n2_ := Azq.mk ((by rw [hg]; exact (wzq (by repeat (first | (with_reducible first | exact HB.out | apply waq | apply wdq | apply wrq) | exact HB.out))) : w.heap.size ≤ gb294)); have n3_ := n2_; clear HB; have HB := n0_; have BK294 := n1_; have GW294 := n2_; have GE294 := n3_; clear n0_ n1_ n2_ n3_; clear hb hbox hg) | ((with_reducible refine gate_dst (N := 4) rfl ?_); refine box_event ?hg (N := 4) ?hd (cs := #[.int .i64 0, .slice none 0 0, .int .i64 0]) (t := 30) ?hr ?_; (case hd => rfl); (case hg => rfl); (case hr => first | (go_simp; done) | (go_simp; rfl)); intro gb295 hg w5 hbox hb; have n0_ := Azq.mk (kbq (g := gb294) (o := .cells #[.int .i64 a0_0, .slice A0_1 l0_1.length c0_1] 28 (0, 0)) (by (with_reducible repeat (first | refine kdq ?_ _ | refine krq ?_ | refine kaq ?_ _)); exact BK294.out) hb); have n1_ := Azq.mk (wtq (by repeat (first | (with_reducible first | exact HB.out | apply waq | apply wdq | apply wrq | refine wsq ?_ GE294.out) | exact HB.out)) hb); have n2_ := Azq.mk (hbox); have n3_ := Azq.mk ((by rw [hg]; exact (wzq (by repeat (first | (with_reducible first | exact HB.out | apply waq | apply wdq | apply wrq | refine wsq ?_ GE294.out) | exact HB.out))) : w.heap.size ≤ gb295)); have n4_ := n3_; have n5_ := Azq.mk ((by rw [hg]; exact Nat.ne_of_lt (klq (g := gb294) (o := .cells #[.int .i64 a0_0, .slice A0_1 l0_1.length c0_1] 28 (0, 0)) (by (with_reducible repeat (first | refine kdq ?_ _ | refine krq ?_ | refine kaq ?_ _)); exact BK294.out)) : gb294 ≠ gb295)); have n6_ := Azq.mk ((by rw [hg]; exact Nat.ne_of_gt (klq (g := gb294) (o := .cells #[.int .i64 a0_0, .slice A0_1 l0_1.length c0_1] 28 (0, 0)) (by (with_reducible repeat (first | refine kdq ?_ _ | refine krq ?_ | refine kaq ?_ _)); exact BK294.out)) : gb295 ≠ gb294)); clear BK294; clear HB; have BK294 := n0_; have HB := n1_; have BK295 := n2_; have GW295 := n3_; have GE295 := n4_; have NB294_295 := n5_; have NB295_294 := n6_; clear n0_ n1_ n2_ n3_ n4_ n5_ n6_; clear hb hbox hg; have hnb6 := NB294_295.out; have hnc6 := NB295_294.out; have hcz7_0 : w5.cell? ⟨gb294, 0, none⟩ = some (.int .i64 a0_0) := (kcq BK294.out 0).trans rfl; have hcz7_1 : w5.cell? ⟨gb294, 1, none⟩ = some (.slice A0_1 l0_1.length c0_1) := (kcq BK294.out 1).trans rfl; have hfz7_0 := kfq BK294.out 0; have hfz7_1 := kfq BK294.out 1; have hcz8_0 : w5.cell? ⟨gb295, 0, none⟩ = some (.int .i64 0) := (kcq BK295.out 0).trans rfl; have hcz8_1 : w5.cell? ⟨gb295, 1, none⟩ = some (.slice none 0 0) := (kcq BK295.out 1).trans rfl; have hcz8_2 : w5.cell? ⟨gb295, 2, none⟩ = some (.int .i64 0) := (kcq BK295.out 2).trans rfl; have hfz8_0 := kfq BK295.out 0; have hfz8_1 := kfq BK295.out 1; have hfz8_2 := kfq BK295.out 2))
  refine bodyPost_ret (results_cell_row rfl _ _ gb295 30 #[.int .i64 0, .slice none 0 0, .int .i64 0] (0, 0) _ rfl (by (with_reducible repeat (first | refine kdq ?_ _ | refine krq ?_ | refine kaq ?_ _)); refine blk_put (cs := #[.int .i64 0, .slice none 0 0, .int .i64 0]) ?_ 2 _ rfl; (with_reducible repeat (first | refine kdq ?_ _ | refine krq ?_ | refine kaq ?_ _)); refine blk_put (cs := #[.int .i64 0, .slice none 0 0, .int .i64 0]) ?_ 1 _ rfl; (with_reducible repeat (first | refine kdq ?_ _ | refine krq ?_ | refine kaq ?_ _)); refine blk_put (cs := #[.int .i64 0, .slice none 0 0, .int .i64 0]) ?_ 0 _ rfl; (with_reducible repeat (first | refine kdq ?_ _ | refine krq ?_ | refine kaq ?_ _)); exact BK295.out) Tryz.underlying30 rfl (by kernel_rfl)) rfl ?_
  exact ⟨_, by first | rfl | (simp [errW_none, errW_some] <;> rfl) | (simp [*, errW_none, errW_some] <;> rfl), by first | exact Kd.R_nil _ _ _ _ _ | exact Kd.N_nil _ _ _ _ _ | exact Kd.V_nil _ _ _ _ _ | exact Kd.Q_nil _ _ _ _ _ | exact Kd.S_nil _ _ _ _ _, by repeat (first | (with_reducible first | exact HB.out | apply waq | apply wdq | apply wrq | refine wsq ?_ GE294.out | refine wsq ?_ GE295.out) | exact HB.out)⟩
 ·rw [if_neg c3] at H
  have c3b0 : (a0_0 == 0) = false := beq_eq_false_iff_ne.mpr c3
  have c3b1 : (a0_0 != 0) = true := bne_iff_ne.mpr c3
  replace H := Option.bind_eq_some_iff.mp H
  obtain ⟨t296, A90, H⟩ := H
  replace H : ((spec_l02Cut.f k a0_0 l0_1 t296).bind fun bt297 => (some (bt297.1, bt297.2, wrap64 (a1 + t296)))) = some (r1, r2, r3) := H
  have A9 := Azq.mk A90
  clear A90
  replace H := Option.bind_eq_some_iff.mp H
  obtain ⟨⟨t297, t298⟩, A100, H⟩ := H
  replace H : (some (t297, t298, wrap64 (a1 + t296))) = some (r1, r2, r3) := H
  have A10 := Azq.mk A100
  clear A100
  simp only [Option.some.injEq, Prod.mk.injEq] at H
  obtain ⟨rfl, rfl, rfl⟩ := H
  go_enter Tryz.func37, Tryz.ntmps37
  go_wp2_with (first | ((with_reducible refine gate_dst (N := 2) rfl ?_); refine box_event ?hg (N := 2) ?hd (cs := #[.int .i64 a0_0, .slice A0_1 l0_1.length c0_1]) (t := 28) ?hr ?_; (case hd => rfl); (case hg => rfl); (case hr => first | (go_simp; done) | (go_simp; rfl)); intro gb294 hg w11 hbox hb; have n0_ := Azq.mk (wtq (by repeat (first | (with_reducible first | exact HB.out | apply waq | apply wdq | apply wrq) | exact HB.out)) hb); have n1_ := Azq.mk (hbox); have n2_ := Azq.mk ((by rw [hg]; exact (wzq (by repeat (first | (with_reducible first | exact HB.out | apply waq | apply wdq | apply wrq) | exact HB.out))) : w.heap.size ≤ gb294)); have n3_ := n2_; clear HB; have HB := n0_; have BK294 := n1_; have GW294 := n2_; have GE294 := n3_; clear n0_ n1_ n2_ n3_; clear hb hbox hg) | ((with_reducible refine gate_dst (N := 4) rfl ?_); refine box_event ?hg (N := 4) ?hd (cs := #[.int .i64 0, .slice none 0 0, .int .i64 0]) (t := 30) ?hr ?_; (case hd => rfl); (case hg => rfl); (case hr => first | (go_simp; done) | (go_simp; rfl)); intro gb295 hg w12 hbox hb; have n0_ := Azq.mk (kbq (g := gb294) (o := .cells #[.int .i64 a0_0, .slice A0_1 l0_1.length c0_1] 28 (0, 0)) (by (with_reducible repeat (first | refine kdq ?_ _ | refine krq ?_ | refine kaq ?_ _)); exact BK294.out) hb); have n1_ := Azq.mk (wtq (by repeat (first | (with_reducible first | exact HB.out | apply waq | apply wdq | apply wrq | refine wsq ?_ GE294.out) | exact HB.out)) hb); have n2_ := Azq.mk (hbox); have n3_ := Azq.mk ((by rw [hg]; exact (wzq (by repeat (first | (with_reducible first | exact HB.out | apply waq | apply wdq | apply wrq | refine wsq ?_ GE294.out) | exact HB.out))) : w.heap.size ≤ gb295)); have n4_ := n3_; have n5_ := Azq.mk ((by rw [hg]; exact Nat.ne_of_lt (klq (g := gb294) (o := .cells #[.int .i64 a0_0, .slice A0_1 l0_1.length c0_1] 28 (0, 0)) (by (with_reducible repeat (first | refine kdq ?_ _ | refine krq ?_ | refine kaq ?_ _)); exact BK294.out)) : gb294 ≠ gb295)); have n6_ := Azq.mk ((by rw [hg]; exact Nat.ne_of_gt (klq (g := gb294) (o := .cells #[.int .i64 a0_0, .slice A0_1 l0_1.length c0_1] 28 (0, 0)) (by (with_reducible repeat (first | refine kdq ?_ _ | refine krq ?_ | refine kaq ?_ _)); exact BK294.out)) : gb295 ≠ gb294)); clear BK294; clear HB; have BK294 := n0_; have HB := n1_; have BK295 := n2_; have GW295 := n3_; have GE295 := n4_; have NB294_295 := n5_; have NB295_294 := n6_; clear n0_ n1_ n2_ n3_ n4_ n5_ n6_; clear hb hbox hg; have hnb13 := NB294_295.out; have hnc13 := NB295_294.out; have hcz14_0 : w12.cell? ⟨gb294, 0, none⟩ = some (.int .i64 a0_0) := (kcq BK294.out 0).trans rfl; have hcz14_1 : w12.cell? ⟨gb294, 1, none⟩ = some (.slice A0_1 l0_1.length c0_1) := (kcq BK294.out 1).trans rfl; have hfz14_0 := kfq BK294.out 0; have hfz14_1 := kfq BK294.out 1) | ((with_reducible refine gate_callee (f := 64) rfl ?_); refine goesL_ (some 11) rfl rfl Tryz.func64 (by kernel_rfl) rfl #[.agg #[.int .i64 a0_0, .slice A0_1 l0_1.length c0_1]] rfl (by (try simp only [List.map_toArray, List.map_cons, List.map_nil]); first | done | rfl | (simp only [List.length_drop, List.length_take]; rfl)) ?_; (with_reducible refine (spec_l02Twos.calls k a0_0 _ _ l0_1 t296 _ ?side1 ?side2 A9.out).mono ?_); (case side1 => repeat (first | exact (Kd.C_below HR0_1.out HB.out) | (with_reducible refine Kd.C_alloc ?_ _) | (with_reducible refine Kd.C_drewN ?_ _) | (with_reducible refine Kd.C_drew ?_))); (case side2 => exact HC0_1.out); rintro e w15 ⟨rfl, hb⟩; refine ⟨_, rfl, ?_⟩; have n0_ := Azq.mk (kbq (g := gb294) (o := .cells #[.int .i64 a0_0, .slice A0_1 l0_1.length c0_1] 28 (0, 0)) (by (with_reducible repeat (first | refine kdq ?_ _ | refine krq ?_ | refine kaq ?_ _)); exact BK294.out) hb); have n1_ := Azq.mk (kbq (g := gb295) (o := .cells #[.int .i64 0, .slice none 0 0, .int .i64 0] 30 (0, 0)) (by (with_reducible repeat (first | refine kdq ?_ _ | refine krq ?_ | refine kaq ?_ _)); exact BK295.out) hb); have n2_ := Azq.mk (wtq (by repeat (first | (with_reducible first | exact HB.out | apply waq | apply wdq | apply wrq | refine wsq ?_ GE294.out | refine wsq ?_ GE295.out) | exact HB.out)) hb); clear BK294; clear BK295; clear HB; have BK294 := n0_; have BK295 := n1_; have HB := n2_; clear n0_ n1_ n2_; (try clear hb); (try clear hb2); (try clear hk); (try clear hi); have hcz16_0 : w15.cell? ⟨gb294, 0, none⟩ = some (.int .i64 a0_0) := (kcq BK294.out 0).trans rfl; have hcz16_1 : w15.cell? ⟨gb294, 1, none⟩ = some (.slice A0_1 l0_1.length c0_1) := (kcq BK294.out 1).trans rfl; have hfz16_0 := kfq BK294.out 0; have hfz16_1 := kfq BK294.out 1) | ((with_reducible refine gate_callee (f := 57) rfl ?_); refine goesL_ (some 14) rfl rfl Tryz.func57 (by kernel_rfl) rfl #[.agg #[.int .i64 a0_0, .slice A0_1 l0_1.length c0_1], .int .i64 t296] rfl (by (try simp only [List.map_toArray, List.map_cons, List.map_nil]); first | done | rfl | (simp only [List.length_drop, List.length_take]; rfl)) ?_; (with_reducible refine (spec_l02Cut.calls k a0_0 _ _ l0_1 t296 t297 t298 _ ?side1 ?side2 A10.out).mono ?_); (case side1 => repeat (first | exact (Kd.C_below HR0_1.out HB.out) | (with_reducible refine Kd.C_alloc ?_ _) | (with_reducible refine Kd.C_drewN ?_ _) | (with_reducible refine Kd.C_drew ?_))); (case side2 => exact HC0_1.out); rintro e w17 ⟨v299, rfl, ho0, hb⟩; refine ⟨_, rfl, ?_⟩; have n0_ := Azq.mk (Kd.R_lower ho0 (wzq (by repeat (first | (with_reducible first | exact HB.out | apply waq | apply wdq | apply wrq | refine wsq ?_ GE294.out | refine wsq ?_ GE295.out) | exact HB.out)))); have n1_ := Azq.mk (kbq (g := gb294) (o := .cells #[.int .i64 a0_0, .slice A0_1 l0_1.length c0_1] 28 (0, 0)) (by (with_reducible repeat (first | refine kdq ?_ _ | refine krq ?_ | refine kaq ?_ _)); exact BK294.out) hb); have n2_ := Azq.mk (kbq (g := gb295) (o := .cells #[.int .i64 0, .slice none 0 0, .int .i64 0] 30 (0, 0)) (by (with_reducible repeat (first | refine kdq ?_ _ | refine krq ?_ | refine kaq ?_ _)); exact BK295.out) hb); have n3_ := Azq.mk (wtq (by repeat (first | (with_reducible first | exact HB.out | apply waq | apply wdq | apply wrq | refine wsq ?_ GE294.out | refine wsq ?_ GE295.out) | exact HB.out)) hb); clear BK294; clear BK295; clear HB; have HO300 := n0_; have BK294 := n1_; have BK295 := n2_; have HB := n3_; clear n0_ n1_ n2_ n3_; (try clear hb); (try clear hb2); (try clear hk); (try clear hi); (try clear ho0); obtain ⟨Ao18, co18, eo18⟩ := Kd.R_slice HO300.out; subst eo18; have hcz19_0 : w17.cell? ⟨gb295, 0, none⟩ = some (.int .i64 0) := (kcq BK295.out 0).trans rfl; have hcz19_1 : w17.cell? ⟨gb295, 1, none⟩ = some (.slice none 0 0) := (kcq BK295.out 1).trans rfl; have hcz19_2 : w17.cell? ⟨gb295, 2, none⟩ = some (.int .i64 0) := (kcq BK295.out 2).trans rfl; have hfz19_0 := kfq BK295.out 0; have hfz19_1 := kfq BK295.out 1; have hfz19_2 := kfq BK295.out 2))
  refine bodyPost_ret (results_cell_row rfl _ _ gb295 30 #[.int .i64 t297, .slice Ao18 t298.length co18, .int .i64 (wrap64 (a1 + t296))] (0, 0) _ rfl (by (with_reducible repeat (first | refine kdq ?_ _ | refine krq ?_ | refine kaq ?_ _)); refine blk_put (cs := #[.int .i64 t297, .slice Ao18 t298.length co18, .int .i64 0]) ?_ 2 _ rfl; (with_reducible repeat (first | refine kdq ?_ _ | refine krq ?_ | refine kaq ?_ _)); refine blk_put (cs := #[.int .i64 t297, .slice none 0 0, .int .i64 0]) ?_ 1 _ rfl; (with_reducible repeat (first | refine kdq ?_ _ | refine krq ?_ | refine kaq ?_ _)); refine blk_put (cs := #[.int .i64 0, .slice none 0 0, .int .i64 0]) ?_ 0 _ rfl; (with_reducible repeat (first | refine kdq ?_ _ | refine krq ?_ | refine kaq ?_ _)); exact BK295.out) Tryz.underlying30 rfl (by kernel_rfl)) rfl ?_
  exact ⟨_, by first | rfl | (simp [errW_none, errW_some] <;> rfl) | (simp [*, errW_none, errW_some] <;> rfl), by (with_reducible repeat (first | apply Kd.R_alloc | apply Kd.R_drewN | apply Kd.R_drew)); exact Kd.R_mono (Kd.R_far (p := ⟨gb295, 2, none⟩) (Kd.R_far (p := ⟨gb295, 1, none⟩) (Kd.R_far (p := ⟨gb295, 0, none⟩) (Kd.R_types HO300.out BK295.out (by decide)) (fun _ hk => hk.2) (.int .i64 t297)) (fun _ hk => hk.2) (.slice Ao18 t298.length co18)) (fun _ hk => hk.2) (.int .i64 (wrap64 (a1 + t296)))) (fun _ hk => trivial), by repeat (first | (with_reducible first | exact HB.out | apply waq | apply wdq | apply wrq | refine wsq ?_ GE294.out | refine wsq ?_ GE295.out) | exact HB.out)⟩
end Go.Proofs.YtjggbalhpflbbaaGreat.PW
end
section
namespace Go.Proofs.YtjggbalhpflbbaaGreat.PW
open Go.RowKit Go.Proofs.YtjggbalhpflbbaaGreatW.PrintWords Go.Proofs.YtjggbalhpflbbaaGreatW.PrintLast Go.Proofs.YtjggbalhpflbbaaGreatW.PrintMore
attribute [local go_sem] max2_int min2_int max_two min_two max_three min_three max_four min_four   -- for this text's walks alone
set_option linter.unusedVariables false
set_option linter.unusedSimpArgs false
def spec_l03Add.f (k : Nat) (a0_0 : Int) (l0_1 : List Int) (a0_2 : Int) (a1_0 : Int) (l1_1 : List Int) (a1_2 : Int) : Option (Int × List Int × Int) := if a0_0 = 0 then ((spec_l03Make.f k a1_0 l1_1 a1_2).bind fun bt304 => (some (bt304.1, bt304.2.1, bt304.2.2))) else (if a1_0 = 0 then ((spec_l03Make.f k a0_0 l0_1 a0_2).bind fun bt309 => (some (bt309.1, bt309.2.1, bt309.2.2))) else ((spec_l02Left.f k a0_0 l0_1 (wrap64 (a0_2 - (mn a0_2 a1_2)))).bind fun bt314 => ((spec_l02Left.f k a1_0 l1_1 (wrap64 (a1_2 - (mn a0_2 a1_2)))).bind fun bt318 => ((spec_l02Add.f k bt314.1 bt314.2 bt318.1 bt318.2).bind fun bt322 => ((spec_l03Make.f k bt322.1 bt322.2 (mn a0_2 a1_2)).bind fun bt326 => (some (bt326.1, bt326.2.1, bt326.2.2)))))))
theorem spec_l03Add.mono : ∀ a0 a1 a2 a3 a4 a5 k, LeO (spec_l03Add.f k a0 a1 a2 a3 a4 a5) (spec_l03Add.f (k + 1) a0 a1 a2 a3 a4 a5) := by
 intro a0 a1 a2 a3 a4 a5 k
 unfold spec_l03Add.f
 repeat' first
   | (with_reducible exact spec_l02Add.mono _ _ _ _ _)
   | (with_reducible exact spec_l02Left.mono _ _ _ _)
   | (with_reducible exact spec_l03Make.mono _ _ _ _)
   | (with_reducible exact LeO.refl _)
   | (with_reducible exact LeO.none _)
   | (with_reducible refine LeO.ite ?_ ?_)
   | (with_reducible refine LeO.bind ?_ (fun _ => ?_))
   | exact spec_l02Add.mono _ _ _ _ _
   | exact spec_l02Left.mono _ _ _ _
   | exact spec_l03Make.mono _ _ _ _
   | exact LeO.none _
   | refine LeO.ite ?_ ?_
   | refine LeO.bind ?_ (fun _ => ?_)
end Go.Proofs.YtjggbalhpflbbaaGreat.PW
end
section
namespace Go.Proofs.YtjggbalhpflbbaaGreat.PW
open Go.RowKit Go.Proofs.YtjggbalhpflbbaaGreatW.PrintWords Go.Proofs.YtjggbalhpflbbaaGreatW.PrintLast Go.Proofs.YtjggbalhpflbbaaGreatW.PrintMore
attribute [local go_sem] max2_int min2_int max_two min_two max_three min_three max_four min_four   -- for this text's walks alone
set_option linter.unusedVariables false
set_option linter.unusedSimpArgs false
def spec_l03Sub.f (k : Nat) (a0_0 : Int) (l0_1 : List Int) (a0_2 : Int) (a1_0 : Int) (l1_1 : List Int) (a1_2 : Int) : Option (Int × List Int × Int) := (spec_l03Neg.f k a1_0 l1_1 a1_2).bind fun bt346 => ((spec_l03Add.f k a0_0 l0_1 a0_2 bt346.1 bt346.2.1 bt346.2.2).bind fun bt351 => (some (bt351.1, bt351.2.1, bt351.2.2)))
theorem spec_l03Sub.mono : ∀ a0 a1 a2 a3 a4 a5 k, LeO (spec_l03Sub.f k a0 a1 a2 a3 a4 a5) (spec_l03Sub.f (k + 1) a0 a1 a2 a3 a4 a5) := by
 intro a0 a1 a2 a3 a4 a5 k
 unfold spec_l03Sub.f
 repeat' first
   | (with_reducible exact spec_l03Add.mono _ _ _ _ _ _ _)
   | (with_reducible exact spec_l03Neg.mono _ _ _ _)
   | (with_reducible exact LeO.refl _)
   | (with_reducible exact LeO.none _)
   | (with_reducible refine LeO.ite ?_ ?_)
   | (with_reducible refine LeO.bind ?_ (fun _ => ?_))
   | exact spec_l03Add.mono _ _ _ _ _ _ _
   | exact spec_l03Neg.mono _ _ _ _
   | exact LeO.none _
   | refine LeO.ite ?_ ?_
   | refine LeO.bind ?_ (fun _ => ?_)
end Go.Proofs.YtjggbalhpflbbaaGreat.PW
end
