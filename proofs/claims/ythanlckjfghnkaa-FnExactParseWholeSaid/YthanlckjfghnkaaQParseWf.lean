/- Lemmas of the claim: PWx43, PWx29, Pm, PWx27, PWx67, PWx37, PWx28, Pn, Po, PWx1, PWx2, PWx17, PWx18, PWx19, Pb, Pw, Dy, PWx66, Px, PWx9, PWx11, PWx10, PWx12, PWx71, Pt, Py, Pz, Tu. -/
import Derived.Test.YthanlckjfghnkaaQParseWe
import Derived.Test.YthanlckjfghnkaaQParseWa
import Derived.Test.YthanlckjfghnkaaQParseWd
import Derived.Laws.BitsLemmas
section
namespace Go.Proofs.Ythanlckjfghnkaa.PW
open Go.RowKit Go.Proofs.YthanlckjfghnkaaW.PrintWords Go.Proofs.YthanlckjfghnkaaW.PrintLast Go.Proofs.YthanlckjfghnkaaW.PrintMore
attribute [local go_sem] max2_int min2_int max_two min_two max_three min_three max_four min_four   -- for this text's walks alone
set_option linter.unusedVariables false
set_option linter.unusedSimpArgs false
def impl_magCmp.l0 : Nat → List Int → List Int → Int → Option (Int)
  | 0, _, _, _ => none
  | k + 1, x0, x1, x5 => if x5 ≥ 0 then (if 0 ≤ x5 then (if x5 < (x0.length : Int) then (if x5 < (x1.length : Int) then (if (rd x0 x5) = (rd x1 x5) then (impl_magCmp.l0 k x0 x1 (wrap64 (x5 - 1))) else ((cmp_Compare_uint32.f (rd x0 x5) (rd x1 x5)).bind fun t350 => (some t350))) else (none)) else (none)) else (none)) else (some 0)
def impl_magCmp.f (k : Nat) (l0 : List Int) (l1 : List Int) : Option (Int) := if (l0.length : Int) = (l1.length : Int) then (impl_magCmp.l0 k l0 l1 (wrap64 ((l0.length : Int) - 1))) else ((cmp_Compare_int.f (l0.length : Int) (l1.length : Int)).bind fun t345 => (some t345))
theorem impl_magCmp.mono_l : ∀ k, (∀ y0 y1 y2, LeO (impl_magCmp.l0 k y0 y1 y2) (impl_magCmp.l0 (k + 1) y0 y1 y2))
  | 0 => fun _ _ _ r h => by simp [impl_magCmp.l0] at h
  | k + 1 => by
    have ih0 := impl_magCmp.mono_l k
    · intro y0 y1 y2
      unfold impl_magCmp.l0
      repeat' first
      | (with_reducible exact ih0 _ _ _)
      | (with_reducible exact LeO.refl _)
      | (with_reducible exact LeO.none _)
      | (with_reducible refine LeO.ite ?_ ?_)
      | (with_reducible refine LeO.bind ?_ (fun _ => ?_))
      | exact ih0 _ _ _
      | exact LeO.none _
      | refine LeO.ite ?_ ?_
      | refine LeO.bind ?_ (fun _ => ?_)
theorem impl_magCmp.mono : ∀ a0 a1 k, LeO (impl_magCmp.f k a0 a1) (impl_magCmp.f (k + 1) a0 a1) := by
  intro a0 a1 k
  have ih0 := impl_magCmp.mono_l k
  unfold impl_magCmp.f
  repeat' first
      | (with_reducible exact ih0 _ _ _)
      | (with_reducible exact LeO.refl _)
      | (with_reducible exact LeO.none _)
      | (with_reducible refine LeO.ite ?_ ?_)
      | (with_reducible refine LeO.bind ?_ (fun _ => ?_))
      | exact ih0 _ _ _
      | exact LeO.none _
      | refine LeO.ite ?_ ?_
      | refine LeO.bind ?_ (fun _ => ?_)
set_option maxHeartbeats 8000000 in
set_option maxRecDepth 100000 in
theorem impl_magCmp.calls (k : Nat) (A0 : Option Addr) (c0 : Nat) (l0 : List Int) (A1 : Option Addr) (c1 : Nat) (l1 : List Int) (r : Int) (w : World) (hr0 : Kd.C (Kd.int .u32) w A0 l0.length l0) (hc0 : l0.length ≤ c0) (hr1 : Kd.C (Kd.int .u32) w A1 l1.length l1) (hc1 : l1.length ≤ c1) (h : impl_magCmp.f k l0 l1 = some r) :
    Calls Try.prog 94 #[.slice A0 l0.length c0, .slice A1 l1.length c1] w fun e w' => e = .returned (.int .i64 r) ∧ Drawn0 w w' := by
  have HR0 := Aside0.mk hr0
  have HC0 := Aside0.mk hc0
  clear hr0 hc0
  have HR1 := Aside0.mk hr1
  have HC1 := Aside0.mk hc1
  clear hr1 hc1
  have H : (if (l0.length : Int) = (l1.length : Int) then (impl_magCmp.l0 k l0 l1 (wrap64 ((l0.length : Int) - 1))) else ((cmp_Compare_int.f (l0.length : Int) (l1.length : Int)).bind fun t345 => (some t345))) = some r := h
  clear h
  by_cases c3 : (l0.length : Int) = (l1.length : Int)
  · rw [if_pos c3] at H
    have c3b0 : ((l0.length : Int) == (l1.length : Int)) = true := beq_iff_eq.mpr c3
    have c3b1 : ((l0.length : Int) != (l1.length : Int)) = false := bne_eq_false_iff_eq.mpr c3
    have c3b2 : (l0.length == l1.length) = true := by first | simpa using c3 | (simp at c3 ⊢; omega)
    clear c3
    have H' := Aside0.mk H
    clear H
    go_enter Try.func94, Try.ntmps94
    go_wp2
    repeat (go_quiet (fail); try go_wp2)
    go_loopg [5] k (fun kq v5 w' => ∃ (x5_1 : Int), v5 = .int .i64 x5_1 ∧ Aside0 (impl_magCmp.l0 kq l0 l1 x5_1 = some r) ∧ Aside0 (kq ≤ k) ∧ Drawn0 w w')
    case atStart => exact ⟨(wrap64 ((l0.length : Int) - 1)), (by first | rfl | (simp; done) | (simp [*]; done)), H', ⟨Nat.le_refl _⟩, by repeat (first | exact Drawn0.refl _ | apply Drawn0.step)⟩
    case round =>
      clear H'
      try clear c1
      try clear p2
      try clear c3
      try clear c3b0
      try clear c3b1
      try clear c3b2
      obtain ⟨x5_1, rfl, HA, HK1, ⟨m1, rfl⟩⟩ := hrel
      cases gk with
      | zero => exact absurd HA.out (by simp [impl_magCmp.l0])
      | succ k1 =>
        have H := HA.out
        clear HA
        simp only [impl_magCmp.l0] at H
        by_cases c4 : x5_1 ≥ 0
        · rw [if_pos c4] at H
          have c4b0 : decide (0 ≤ x5_1) = true := decide_eq_true c4
          clear c4
          by_cases c5 : 0 ≤ x5_1
          · rw [if_pos c5] at H
            have c5b0 : decide (0 ≤ x5_1) = true := decide_eq_true c5
            clear c5
            by_cases c6 : x5_1 < (l0.length : Int)
            · rw [if_pos c6] at H
              have c6b0 : decide (x5_1 < (l0.length : Int)) = true := decide_eq_true c6
              clear c6
              by_cases c7 : x5_1 < (l1.length : Int)
              · rw [if_pos c7] at H
                have c7b0 : decide (x5_1 < (l1.length : Int)) = true := decide_eq_true c7
                clear c7
                by_cases c8 : (rd l0 x5_1) = (rd l1 x5_1)
                · rw [if_pos c8] at H
                  have c8b0 : ((rd l0 x5_1) == (rd l1 x5_1)) = true := beq_iff_eq.mpr c8
                  have c8b1 : ((rd l0 x5_1) != (rd l1 x5_1)) = false := bne_eq_false_iff_eq.mpr c8
                  clear c8
                  have H' := Aside0.mk H
                  clear H
                  have p346 : 0 ≤ (x5_1 : Int) := of_decide_eq_true (by first | (with_reducible assumption) | assumption)
                  have q346 : x5_1 < (l0.length : Int) := of_decide_eq_true (by first | (with_reducible assumption) | assumption)
                  obtain ⟨ad346, e346, hx346_0⟩ := Kd.at_int HR0.out x5_1 p346 q346
                  cases e346
                  replace p346 := eq_true p346
                  replace q346 := eq_true q346
                  have p347 : 0 ≤ (x5_1 : Int) := of_decide_eq_true (by first | (with_reducible assumption) | assumption)
                  have q347 : x5_1 < (l1.length : Int) := of_decide_eq_true (by first | (with_reducible assumption) | assumption)
                  obtain ⟨ad347, e347, hx347_0⟩ := Kd.at_int HR1.out x5_1 p347 q347
                  cases e347
                  replace p347 := eq_true p347
                  replace q347 := eq_true q347
                  go_wp2
                  repeat (go_quiet (fail); try go_wp2)
                  go_roundg k1
                  case measure => have := HK1.out; omega
                  case rel => exact ⟨(wrap64 (x5_1 - 1)), (by first | rfl | (simp; done) | (simp [*]; done)), H', ⟨by have := HK1.out; omega⟩, by repeat (first | exact Drawn0.refl _ | apply Drawn0.step)⟩
                · rw [if_neg c8] at H
                  have c8b0 : ((rd l0 x5_1) == (rd l1 x5_1)) = false := beq_eq_false_iff_ne.mpr c8
                  have c8b1 : ((rd l0 x5_1) != (rd l1 x5_1)) = true := bne_iff_ne.mpr c8
                  replace H := Option.bind_eq_some_iff.mp H
                  obtain ⟨t350, A90, H⟩ := H
                  replace H : (some t350) = some r := H
                  have A9 := Aside0.mk A90
                  clear A90
                  obtain rfl := Option.some.inj H
                  have p346 : 0 ≤ (x5_1 : Int) := of_decide_eq_true (by first | (with_reducible assumption) | assumption)
                  have q346 : x5_1 < (l0.length : Int) := of_decide_eq_true (by first | (with_reducible assumption) | assumption)
                  obtain ⟨ad346, e346, hx346_0⟩ := Kd.at_int HR0.out x5_1 p346 q346
                  cases e346
                  replace p346 := eq_true p346
                  replace q346 := eq_true q346
                  have p347 : 0 ≤ (x5_1 : Int) := of_decide_eq_true (by first | (with_reducible assumption) | assumption)
                  have q347 : x5_1 < (l1.length : Int) := of_decide_eq_true (by first | (with_reducible assumption) | assumption)
                  obtain ⟨ad347, e347, hx347_0⟩ := Kd.at_int HR1.out x5_1 p347 q347
                  cases e347
                  replace p347 := eq_true p347
                  replace q347 := eq_true q347
                  have p348 : 0 ≤ (x5_1 : Int) := of_decide_eq_true (by first | (with_reducible assumption) | assumption)
                  have q348 : x5_1 < (l0.length : Int) := of_decide_eq_true (by first | (with_reducible assumption) | assumption)
                  obtain ⟨ad348, e348, hx348_0⟩ := Kd.at_int HR0.out x5_1 p348 q348
                  obtain rfl : ad346 = ad348 := (by injection e348)
                  replace p348 := eq_true p348
                  replace q348 := eq_true q348
                  have p349 : 0 ≤ (x5_1 : Int) := of_decide_eq_true (by first | (with_reducible assumption) | assumption)
                  have q349 : x5_1 < (l1.length : Int) := of_decide_eq_true (by first | (with_reducible assumption) | assumption)
                  obtain ⟨ad349, e349, hx349_0⟩ := Kd.at_int HR1.out x5_1 p349 q349
                  obtain rfl : ad347 = ad349 := (by injection e349)
                  replace p349 := eq_true p349
                  replace q349 := eq_true q349
                  go_wp2_with (first | (go_at_call 104; (with_reducible refine (cmp_Compare_uint32.calls (rd l0 x5_1) (rd l1 x5_1) t350 _ A9.out).mono ?_); rintro e w' ⟨rfl, ⟨nd, rfl⟩⟩; (try first | exact ⟨rfl, _, World.drewN_drewN _ _ _⟩ | exact ⟨rfl, _, Eq.trans (World.drewN_drewN _ _ _) (congrArg (World.drewN _) (Nat.add_assoc _ _ _))⟩)))
                  repeat (go_quiet (first | (go_at_call 104; (with_reducible refine (cmp_Compare_uint32.calls (rd l0 x5_1) (rd l1 x5_1) t350 _ A9.out).mono ?_); rintro e w' ⟨rfl, ⟨nd, rfl⟩⟩; (try first | exact ⟨rfl, _, World.drewN_drewN _ _ _⟩ | exact ⟨rfl, _, Eq.trans (World.drewN_drewN _ _ _) (congrArg (World.drewN _) (Nat.add_assoc _ _ _))⟩))); try go_wp2_with (first | (go_at_call 104; (with_reducible refine (cmp_Compare_uint32.calls (rd l0 x5_1) (rd l1 x5_1) t350 _ A9.out).mono ?_); rintro e w' ⟨rfl, ⟨nd, rfl⟩⟩; (try first | exact ⟨rfl, _, World.drewN_drewN _ _ _⟩ | exact ⟨rfl, _, Eq.trans (World.drewN_drewN _ _ _) (congrArg (World.drewN _) (Nat.add_assoc _ _ _))⟩))))
                  go_ret
                  exact ⟨by first | rfl | (simp; done) | (simp [*]; done), by repeat (first | exact Drawn0.refl _ | apply Drawn0.step)⟩
              · rw [if_neg c7] at H
                exact absurd H (by simp)
            · rw [if_neg c6] at H
              exact absurd H (by simp)
          · rw [if_neg c5] at H
            exact absurd H (by simp)
        · rw [if_neg c4] at H
          have c4b0 : decide (0 ≤ x5_1) = false := decide_eq_false c4
          clear c4
          obtain rfl := Option.some.inj H
          go_wp2
          repeat (go_quiet (fail); try go_wp2)
          go_ret
          exact ⟨by first | rfl | (simp; done) | (simp [*]; done), by repeat (first | exact Drawn0.refl _ | apply Drawn0.step)⟩
  · rw [if_neg c3] at H
    have c3b0 : ((l0.length : Int) == (l1.length : Int)) = false := beq_eq_false_iff_ne.mpr c3
    have c3b1 : ((l0.length : Int) != (l1.length : Int)) = true := bne_iff_ne.mpr c3
    have c3b2 : (l0.length == l1.length) = false := by first | simpa using c3 | (simp at c3 ⊢; omega)
    replace H := Option.bind_eq_some_iff.mp H
    obtain ⟨t345, A100, H⟩ := H
    replace H : (some t345) = some r := H
    have A10 := Aside0.mk A100
    clear A100
    obtain rfl := Option.some.inj H
    go_enter Try.func94, Try.ntmps94
    go_wp2_with (first | (go_at_call 103; (with_reducible refine (cmp_Compare_int.calls (l0.length : Int) (l1.length : Int) t345 _ A10.out).mono ?_); rintro e w' ⟨rfl, ⟨nd, rfl⟩⟩; (try first | exact ⟨rfl, _, World.drewN_drewN _ _ _⟩ | exact ⟨rfl, _, Eq.trans (World.drewN_drewN _ _ _) (congrArg (World.drewN _) (Nat.add_assoc _ _ _))⟩)))
    repeat (go_quiet (first | (go_at_call 103; (with_reducible refine (cmp_Compare_int.calls (l0.length : Int) (l1.length : Int) t345 _ A10.out).mono ?_); rintro e w' ⟨rfl, ⟨nd, rfl⟩⟩; (try first | exact ⟨rfl, _, World.drewN_drewN _ _ _⟩ | exact ⟨rfl, _, Eq.trans (World.drewN_drewN _ _ _) (congrArg (World.drewN _) (Nat.add_assoc _ _ _))⟩))); try go_wp2_with (first | (go_at_call 103; (with_reducible refine (cmp_Compare_int.calls (l0.length : Int) (l1.length : Int) t345 _ A10.out).mono ?_); rintro e w' ⟨rfl, ⟨nd, rfl⟩⟩; (try first | exact ⟨rfl, _, World.drewN_drewN _ _ _⟩ | exact ⟨rfl, _, Eq.trans (World.drewN_drewN _ _ _) (congrArg (World.drewN _) (Nat.add_assoc _ _ _))⟩))))
    go_ret
    exact ⟨by first | rfl | (simp; done) | (simp [*]; done), by repeat (first | exact Drawn0.refl _ | apply Drawn0.step)⟩
end Go.Proofs.Ythanlckjfghnkaa.PW
end
section
namespace Go.Proofs.Ythanlckjfghnkaa.PW
open Go.RowKit Go.Proofs.YthanlckjfghnkaaW.PrintWords Go.Proofs.YthanlckjfghnkaaW.PrintLast Go.Proofs.YthanlckjfghnkaaW.PrintMore
attribute [local go_sem] max2_int min2_int max_two min_two max_three min_three max_four min_four   -- for this text's walks alone
set_option linter.unusedVariables false
set_option linter.unusedSimpArgs false
def impl_magSub.l0 : Nat → List Int → List Int → Int → List Int → Int → Int → Option (List Int)
  | 0, _, _, _, _, _, _ => none
  | k + 1, x1, x5, x6, x14, x15, x16 => if x16 < x15 then (if 0 ≤ x16 then (if x16 < (x14.length : Int) then (if x16 < (x1.length : Int) then (if x16 < (x5.length : Int) then (impl_magSub.l0 k x1 (x5.set (x16 : Int).toNat ((IntKind.u64.wrap ((IntKind.u64.wrap (rd x14 x16)) - (IntKind.u64.wrap (x6 + (IntKind.u64.wrap (rd x1 x16)))))) % 4294967296)) ((IntKind.u64.wrap ((IntKind.u64.wrap (rd x14 x16)) - (IntKind.u64.wrap (x6 + (IntKind.u64.wrap (rd x1 x16)))))) / 9223372036854775808) x14 x15 (wrap64 (x16 + 1))) else (none)) else (if x16 < (x5.length : Int) then (impl_magSub.l0 k x1 (x5.set (x16 : Int).toNat ((IntKind.u64.wrap ((IntKind.u64.wrap (rd x14 x16)) - x6)) % 4294967296)) ((IntKind.u64.wrap ((IntKind.u64.wrap (rd x14 x16)) - x6)) / 9223372036854775808) x14 x15 (wrap64 (x16 + 1))) else (none))) else (none)) else (none)) else ((impl_magTrim.f k x5).bind fun t321 => (some t321))
def impl_magSub.f (k : Nat) (l0 : List Int) (l1 : List Int) : Option (List Int) := if 0 ≤ (l0.length : Int) then (if ((l0.length : Int) : Int).toNat ≤ 70368744177664 then (impl_magSub.l0 k l1 (List.replicate ((l0.length : Int) : Int).toNat 0) 0 l0 (l0.length : Int) 0) else (none)) else (none)
theorem impl_magSub.mono_l : ∀ k, (∀ y0 y1 y2 y3 y4 y5, LeO (impl_magSub.l0 k y0 y1 y2 y3 y4 y5) (impl_magSub.l0 (k + 1) y0 y1 y2 y3 y4 y5))
  | 0 => fun _ _ _ _ _ _ r h => by simp [impl_magSub.l0] at h
  | k + 1 => by
    have ih0 := impl_magSub.mono_l k
    · intro y0 y1 y2 y3 y4 y5
      unfold impl_magSub.l0
      repeat' first
      | (with_reducible exact ih0 _ _ _ _ _ _)
      | (with_reducible exact impl_magTrim.mono _ _)
      | (with_reducible exact LeO.refl _)
      | (with_reducible exact LeO.none _)
      | (with_reducible refine LeO.ite ?_ ?_)
      | (with_reducible refine LeO.bind ?_ (fun _ => ?_))
      | exact ih0 _ _ _ _ _ _
      | exact impl_magTrim.mono _ _
      | exact LeO.none _
      | refine LeO.ite ?_ ?_
      | refine LeO.bind ?_ (fun _ => ?_)
theorem impl_magSub.mono : ∀ a0 a1 k, LeO (impl_magSub.f k a0 a1) (impl_magSub.f (k + 1) a0 a1) := by
  intro a0 a1 k
  have ih0 := impl_magSub.mono_l k
  unfold impl_magSub.f
  repeat' first
      | (with_reducible exact ih0 _ _ _ _ _ _)
      | (with_reducible exact impl_magTrim.mono _ _)
      | (with_reducible exact LeO.refl _)
      | (with_reducible exact LeO.none _)
      | (with_reducible refine LeO.ite ?_ ?_)
      | (with_reducible refine LeO.bind ?_ (fun _ => ?_))
      | exact ih0 _ _ _ _ _ _
      | exact impl_magTrim.mono _ _
      | exact LeO.none _
      | refine LeO.ite ?_ ?_
      | refine LeO.bind ?_ (fun _ => ?_)
set_option maxHeartbeats 8000000 in
set_option maxRecDepth 100000 in
theorem impl_magSub.calls (k : Nat) (A0 : Option Addr) (c0 : Nat) (l0 : List Int) (A1 : Option Addr) (c1 : Nat) (l1 : List Int) (r : List Int) (w : World) (hr0 : Kd.C (Kd.int .u32) w A0 l0.length l0) (hc0 : l0.length ≤ c0) (hr1 : Kd.C (Kd.int .u32) w A1 l1.length l1) (hc1 : l1.length ≤ c1) (h : impl_magSub.f k l0 l1 = some r) :
    Calls Try.prog 92 #[.slice A0 l0.length c0, .slice A1 l1.length c1] w fun e w' => ∃ v0_ : Value, e = .returned (v0_) ∧ Kd.V (Kd.int .u32) 94 w' w.heap.size (fun k_ => (w.heap.size ≤ k_)) v0_ r ∧ Below w.heap.size w w' := by
  have HR0 := Aside0.mk hr0
  have HC0 := Aside0.mk hc0
  clear hr0 hc0
  have HR1 := Aside0.mk hr1
  have HC1 := Aside0.mk hc1
  clear hr1 hc1
  have HB := Aside0.mk (Below.refl w.heap.size w)
  have H : (if 0 ≤ (l0.length : Int) then (if ((l0.length : Int) : Int).toNat ≤ 70368744177664 then (impl_magSub.l0 k l1 (List.replicate ((l0.length : Int) : Int).toNat 0) 0 l0 (l0.length : Int) 0) else (none)) else (none)) = some r := h
  clear h
  by_cases c3 : 0 ≤ (l0.length : Int)
  · rw [if_pos c3] at H
    have c3b0 := eq_true c3
    have c3b1 : decide (0 ≤ (l0.length : Int)) = true := decide_eq_true c3
    clear c3
    by_cases c4 : ((l0.length : Int) : Int).toNat ≤ 70368744177664
    · rw [if_pos c4] at H
      have c4b0 := eq_true c4
      have c4b1 : decide (((l0.length : Int) : Int).toNat ≤ 70368744177664) = true := decide_eq_true c4
      clear c4
      obtain ⟨y314, hy314⟩ : ∃ y_ : List Int, y_ = (List.replicate ((l0.length : Int) : Int).toNat 0) := ⟨_, rfl⟩
      replace H : (impl_magSub.l0 k l1 y314 0 l0 (l0.length : Int) 0) = some r := by first | (rw [hy314]; with_reducible exact H) | (have H2_ := (Option.bind_some _ _).symm.trans H; rw [hy314]; with_reducible exact H2_) | (have H2_ := (Option.bind_some _ _).symm.trans H; with_reducible exact H2_) | with_reducible exact H | (rw [hy314]; exact H) | exact H
      have Ny314 := Aside0.mk hy314
      clear hy314
      have H' := Aside0.mk H
      clear H
      go_enter Try.func92, Try.ntmps92
      go_wp2_with (first | ((with_reducible refine gate_dst (N := 13) rfl ?_); refine Kd.R_make (Kd.int .u32) _ 94 rfl (N := 13) rfl 55 _ _ rfl (l0.length : Int) rfl rfl Try.underlying55 (.int .u32 0) 4 info94 rfl (by decide) (by omega) 0 (ok := fun _ => True) (okp := fun _ => True) rfl (fun _ hk => hk) trivial (of_decide_eq_true (by first | (with_reducible assumption) | assumption)) (Nat.le_trans (Nat.mul_le_mul_right _ (of_decide_eq_true (by first | (with_reducible assumption) | assumption) : (l0.length : Int).toNat ≤ 70368744177664)) (by omega)) (Below.refl _ _) (Nat.le_refl _) ?_; intro v315 w5 ho6 hb hg_ hnew_; clear hg_ hnew_; (first | rw [← Ny314.out] at ho6 | (simp only [Int.reduceToNat] at ho6; rw [← Ny314.out] at ho6)); have n0_ := Aside0.mk (Kd.R_lower (Kd.R_newM (M := fun k_ => (w.heap.size ≤ k_)) ho6 (below_size (by repeat (first | (with_reducible first | exact HB.out | apply below_alloc | apply pw_below_drewN | apply below_drew1) | exact HB.out))) (fun k_ h_ => h_)) (below_size (by repeat (first | (with_reducible first | exact HB.out | apply below_alloc | apply pw_below_drewN | apply below_drew1) | exact HB.out)))); have n1_ := Aside0.mk (below_step (by repeat (first | (with_reducible first | exact HB.out | apply below_alloc | apply pw_below_drewN | apply below_drew1) | exact HB.out)) hb); clear HB; have HO316 := n0_; have HB := n1_; clear n0_ n1_; clear hb ho6))
      go_loopg [6, 16] k (fun kq v6 v16 w' => ∃ (x5_1 : List Int) (x6_1 : Int) (x16_1 : Int), v6 = .int .u64 x6_1 ∧ v16 = .int .i64 x16_1 ∧ Aside0 (impl_magSub.l0 kq l1 x5_1 x6_1 l0 (l0.length : Int) x16_1 = some r) ∧ Aside0 (kq ≤ k) ∧ Aside0 (Kd.R (Kd.int .u32) 94 w' w.heap.size (fun k_ => (w.heap.size ≤ k_)) v315 x5_1) ∧ Aside0 (Below w.heap.size w w'))
      case atStart => exact ⟨(y314), (0), (0), (by first | rfl | (simp; done) | (simp [*]; done)), (by first | rfl | (simp; done) | (simp [*]; done)), H', ⟨Nat.le_refl _⟩, ⟨by (with_reducible repeat (first | apply Kd.R_alloc | apply Kd.R_drewN | apply Kd.R_drew)); exact Kd.R_mono HO316.out (fun _ hk => hk.1)⟩, ⟨by repeat (first | (with_reducible first | exact HB.out | apply below_alloc | apply pw_below_drewN | apply below_drew1) | exact HB.out)⟩⟩
      case round =>
        clear H'
        try clear c1
        try clear p2
        try clear c3
        try clear c3b0
        try clear c3b1
        try clear c4
        try clear c4b0
        try clear c4b1
        obtain ⟨x5_1, x6_1, x16_1, rfl, rfl, HA, HK1, HO_5, HB⟩ := hrel
        cases gk with
        | zero => exact absurd HA.out (by simp [impl_magSub.l0])
        | succ k1 =>
          have H := HA.out
          clear HA
          simp only [impl_magSub.l0] at H
          by_cases c7 : x16_1 < (l0.length : Int)
          · rw [if_pos c7] at H
            have c7b0 : decide (x16_1 < (l0.length : Int)) = true := decide_eq_true c7
            clear c7
            by_cases c8 : 0 ≤ x16_1
            · rw [if_pos c8] at H
              have c8b0 : decide (0 ≤ x16_1) = true := decide_eq_true c8
              clear c8
              by_cases c9 : x16_1 < (l0.length : Int)
              · rw [if_pos c9] at H
                have c9b0 : decide (x16_1 < (l0.length : Int)) = true := decide_eq_true c9
                clear c9
                by_cases c10 : x16_1 < (l1.length : Int)
                · rw [if_pos c10] at H
                  have c10b0 : decide (x16_1 < (l1.length : Int)) = true := decide_eq_true c10
                  clear c10
                  by_cases c11 : x16_1 < (x5_1.length : Int)
                  · rw [if_pos c11] at H
                    have c11b0 : decide (x16_1 < (x5_1.length : Int)) = true := decide_eq_true c11
                    clear c11
                    obtain ⟨y319, hy319⟩ : ∃ y_ : List Int, y_ = (x5_1.set (x16_1 : Int).toNat ((IntKind.u64.wrap ((IntKind.u64.wrap (rd l0 x16_1)) - (IntKind.u64.wrap (x6_1 + (IntKind.u64.wrap (rd l1 x16_1)))))) % 4294967296)) := ⟨_, rfl⟩
                    replace H : (impl_magSub.l0 k1 l1 y319 ((IntKind.u64.wrap ((IntKind.u64.wrap (rd l0 x16_1)) - (IntKind.u64.wrap (x6_1 + (IntKind.u64.wrap (rd l1 x16_1)))))) / 9223372036854775808) l0 (l0.length : Int) (wrap64 (x16_1 + 1))) = some r := by first | (rw [hy319]; with_reducible exact H) | (have H2_ := (Option.bind_some _ _).symm.trans H; rw [hy319]; with_reducible exact H2_) | (have H2_ := (Option.bind_some _ _).symm.trans H; with_reducible exact H2_) | with_reducible exact H | (rw [hy319]; exact H) | exact H
                    have Ny319 := Aside0.mk hy319
                    clear hy319
                    have H' := Aside0.mk H
                    clear H
                    have p317 : 0 ≤ (x16_1 : Int) := of_decide_eq_true (by first | (with_reducible assumption) | assumption)
                    have q317 : x16_1 < (l0.length : Int) := of_decide_eq_true (by first | (with_reducible assumption) | assumption)
                    obtain ⟨ad317, e317, hx317_0⟩ := Kd.at_int HR0.out x16_1 p317 q317
                    cases e317
                    replace hx317_0 := (HB.out.cell (World.block_lt_of_cell? w _ hx317_0)).trans hx317_0
                    replace p317 := eq_true p317
                    replace q317 := eq_true q317
                    have p318 : 0 ≤ (x16_1 : Int) := of_decide_eq_true (by first | (with_reducible assumption) | assumption)
                    have q318 : x16_1 < (l1.length : Int) := of_decide_eq_true (by first | (with_reducible assumption) | assumption)
                    obtain ⟨ad318, e318, hx318_0⟩ := Kd.at_int HR1.out x16_1 p318 q318
                    cases e318
                    replace hx318_0 := (HB.out.cell (World.block_lt_of_cell? w _ hx318_0)).trans hx318_0
                    replace p318 := eq_true p318
                    replace q318 := eq_true q318
                    have p12 : 0 ≤ (x16_1 : Int) := of_decide_eq_true (by first | (with_reducible assumption) | assumption)
                    have q12 : (x16_1 : Int) < ((x5_1.length : Int) : Int) := of_decide_eq_true (by first | (with_reducible assumption) | assumption)
                    obtain ⟨go12, co12, eo12, gb12, gl12, cl12, HG12⟩ := Kd.R_form HO_5.out (by omega)
                    (first | cases eo12 | (injection eo12 with ea_ en_ ec_; (first | subst ea_ | (injection ea_ with ea_; subst ea_)); subst ec_; clear en_))
                    have GB12 := Aside0.mk gb12
                    have GG12 := Aside0.mk HG12
                    clear gb12 gl12 HG12
                    obtain ⟨hx12_0, hf12_0⟩ := Kd.R_celln 0 HO_5.out (x16_1 : Int) p12 q12
                    replace p12 := eq_true p12
                    replace q12 := eq_true q12
                    have HP13 := Kd.R_putg HO_5.out (x16_1 : Int) ((IntKind.u64.wrap ((IntKind.u64.wrap (rd l0 x16_1)) - (IntKind.u64.wrap (x6_1 + (IntKind.u64.wrap (rd l1 x16_1)))))) % 4294967296)
                    go_wp2_with (first | ((with_reducible refine gate_store (t := 94) (p := 41) rfl ?_); refine store_event (t := 94) (p := 41) (v := ?vo_w14) (w1 := (wr.setCell ⟨go12, (x16_1 : Int).toNat, none⟩ (.int .u32 ((IntKind.u64.wrap ((IntKind.u64.wrap (rd l0 x16_1)) - (IntKind.u64.wrap (x6_1 + (IntKind.u64.wrap (rd l1 x16_1)))))) % 4294967296)))) ?hg ?ho ?hn ?hr ?_; (case ho => rfl); (case hg => rfl); (case hn => rfl); (case hr => first | (go_simp; done) | (go_simp; rfl)); intro w14 hw; have hg : wr.grownBy w14 (some go12) := (by rw [hw]; exact HP13.2); have hp_ : Kd.R (Kd.int .u32) 94 w14 w.heap.size (fun k_ => (w.heap.size ≤ k_)) (.slice (some ⟨go12, 0, none⟩) x5_1.length co12) y319 := (by rw [hw, Ny319.out]; exact HP13.1); clear HP13; have n0_ := Aside0.mk (hp_); have n1_ := Aside0.mk ((by rw [hw]; exact below_set (HB.out) GB12.out : Below w.heap.size w w14)); clear HO_5; clear HB; have HO_5 := n0_; have HB := n1_; clear n0_ n1_; clear hg hw hp_))
                    go_roundg k1
                    case measure => have := HK1.out; omega
                    case rel => exact ⟨(y319), ((IntKind.u64.wrap ((IntKind.u64.wrap (rd l0 x16_1)) - (IntKind.u64.wrap (x6_1 + (IntKind.u64.wrap (rd l1 x16_1)))))) / 9223372036854775808), (wrap64 (x16_1 + 1)), (by first | rfl | (simp; done) | (simp [*]; done)), (by first | rfl | (simp; done) | (simp [*]; done)), H', ⟨by have := HK1.out; omega⟩, ⟨by (with_reducible repeat (first | apply Kd.R_alloc | apply Kd.R_drewN | apply Kd.R_drew)); exact HO_5.out⟩, ⟨by repeat (first | (with_reducible first | exact HB.out | apply below_alloc | apply pw_below_drewN | apply below_drew1) | exact HB.out)⟩⟩
                  · rw [if_neg c11] at H
                    exact absurd H (by simp)
                · rw [if_neg c10] at H
                  have c10b0 : decide (x16_1 < (l1.length : Int)) = false := decide_eq_false c10
                  clear c10
                  by_cases c15 : x16_1 < (x5_1.length : Int)
                  · rw [if_pos c15] at H
                    have c15b0 : decide (x16_1 < (x5_1.length : Int)) = true := decide_eq_true c15
                    clear c15
                    obtain ⟨y320, hy320⟩ : ∃ y_ : List Int, y_ = (x5_1.set (x16_1 : Int).toNat ((IntKind.u64.wrap ((IntKind.u64.wrap (rd l0 x16_1)) - x6_1)) % 4294967296)) := ⟨_, rfl⟩
                    replace H : (impl_magSub.l0 k1 l1 y320 ((IntKind.u64.wrap ((IntKind.u64.wrap (rd l0 x16_1)) - x6_1)) / 9223372036854775808) l0 (l0.length : Int) (wrap64 (x16_1 + 1))) = some r := by first | (rw [hy320]; with_reducible exact H) | (have H2_ := (Option.bind_some _ _).symm.trans H; rw [hy320]; with_reducible exact H2_) | (have H2_ := (Option.bind_some _ _).symm.trans H; with_reducible exact H2_) | with_reducible exact H | (rw [hy320]; exact H) | exact H
                    have Ny320 := Aside0.mk hy320
                    clear hy320
                    have H' := Aside0.mk H
                    clear H
                    have p317 : 0 ≤ (x16_1 : Int) := of_decide_eq_true (by first | (with_reducible assumption) | assumption)
                    have q317 : x16_1 < (l0.length : Int) := of_decide_eq_true (by first | (with_reducible assumption) | assumption)
                    obtain ⟨ad317, e317, hx317_0⟩ := Kd.at_int HR0.out x16_1 p317 q317
                    cases e317
                    replace hx317_0 := (HB.out.cell (World.block_lt_of_cell? w _ hx317_0)).trans hx317_0
                    replace p317 := eq_true p317
                    replace q317 := eq_true q317
                    have p16 : 0 ≤ (x16_1 : Int) := of_decide_eq_true (by first | (with_reducible assumption) | assumption)
                    have q16 : (x16_1 : Int) < ((x5_1.length : Int) : Int) := of_decide_eq_true (by first | (with_reducible assumption) | assumption)
                    obtain ⟨go16, co16, eo16, gb16, gl16, cl16, HG16⟩ := Kd.R_form HO_5.out (by omega)
                    (first | cases eo16 | (injection eo16 with ea_ en_ ec_; (first | subst ea_ | (injection ea_ with ea_; subst ea_)); subst ec_; clear en_))
                    have GB16 := Aside0.mk gb16
                    have GG16 := Aside0.mk HG16
                    clear gb16 gl16 HG16
                    obtain ⟨hx16_0, hf16_0⟩ := Kd.R_celln 0 HO_5.out (x16_1 : Int) p16 q16
                    replace p16 := eq_true p16
                    replace q16 := eq_true q16
                    have HP17 := Kd.R_putg HO_5.out (x16_1 : Int) ((IntKind.u64.wrap ((IntKind.u64.wrap (rd l0 x16_1)) - x6_1)) % 4294967296)
                    go_wp2_with (first | ((with_reducible refine gate_store (t := 94) (p := 41) rfl ?_); refine store_event (t := 94) (p := 41) (v := ?vo_w18) (w1 := (wr.setCell ⟨go16, (x16_1 : Int).toNat, none⟩ (.int .u32 ((IntKind.u64.wrap ((IntKind.u64.wrap (rd l0 x16_1)) - x6_1)) % 4294967296)))) ?hg ?ho ?hn ?hr ?_; (case ho => rfl); (case hg => rfl); (case hn => rfl); (case hr => first | (go_simp; done) | (go_simp; rfl)); intro w18 hw; have hg : wr.grownBy w18 (some go16) := (by rw [hw]; exact HP17.2); have hp_ : Kd.R (Kd.int .u32) 94 w18 w.heap.size (fun k_ => (w.heap.size ≤ k_)) (.slice (some ⟨go16, 0, none⟩) x5_1.length co16) y320 := (by rw [hw, Ny320.out]; exact HP17.1); clear HP17; have n0_ := Aside0.mk (hp_); have n1_ := Aside0.mk ((by rw [hw]; exact below_set (HB.out) GB16.out : Below w.heap.size w w18)); clear HO_5; clear HB; have HO_5 := n0_; have HB := n1_; clear n0_ n1_; clear hg hw hp_))
                    go_roundg k1
                    case measure => have := HK1.out; omega
                    case rel => exact ⟨(y320), ((IntKind.u64.wrap ((IntKind.u64.wrap (rd l0 x16_1)) - x6_1)) / 9223372036854775808), (wrap64 (x16_1 + 1)), (by first | rfl | (simp; done) | (simp [*]; done)), (by first | rfl | (simp; done) | (simp [*]; done)), H', ⟨by have := HK1.out; omega⟩, ⟨by (with_reducible repeat (first | apply Kd.R_alloc | apply Kd.R_drewN | apply Kd.R_drew)); exact HO_5.out⟩, ⟨by repeat (first | (with_reducible first | exact HB.out | apply below_alloc | apply pw_below_drewN | apply below_drew1) | exact HB.out)⟩⟩
                  · rw [if_neg c15] at H
                    exact absurd H (by simp)
              · rw [if_neg c9] at H
                exact absurd H (by simp)
            · rw [if_neg c8] at H
              exact absurd H (by simp)
          · rw [if_neg c7] at H
            have c7b0 : decide (x16_1 < (l0.length : Int)) = false := decide_eq_false c7
            clear c7
            replace H := Option.bind_eq_some_iff.mp H
            obtain ⟨t321, A190, H⟩ := H
            replace H : (some t321) = some r := H
            have A19 := Aside0.mk A190
            clear A190
            obtain rfl := Option.some.inj H
            obtain ⟨Ao20, co20, eo20⟩ := Kd.R_slice HO_5.out
            subst eo20
            go_wp2_with (first | ((with_reducible refine gate_callee (f := 75) rfl ?_); refine goesL_ (some 46) rfl rfl Try.func75 (by kernel_rfl) rfl #[.slice Ao20 x5_1.length co20] rfl (by (try simp only [List.map_toArray, List.map_cons, List.map_nil]); first | done | rfl | (simp only [List.length_drop, List.length_take]; rfl)) ?_; (with_reducible refine (impl_magTrim.calls k1 (fun k_ => some k_ = (.slice Ao20 x5_1.length co20 : Value).ownBlock) _ _ x5_1 t321 _ ?side1 A19.out).mono ?_); (case side1 => exact Kd.R_V (Kd.R_tight rfl (HO_5.out))); rintro e w21 ⟨v322, rfl, ho0, hb⟩; refine ⟨_, rfl, ?_⟩; have n0_ := Aside0.mk (Kd.R_below (by (with_reducible repeat (first | apply Kd.R_alloc | apply Kd.R_drewN | apply Kd.R_drew)); exact HO_5.out) hb); have n1_ := Aside0.mk (Kd.V_lower (Kd.V_mono (ok' := fun k_ => (w.heap.size ≤ k_)) ho0 (fun k_ hk_ => Or.elim hk_ (fun hs_ => ((HO_5.out).1 k_ hs_.symm)) (fun hn_ => (Nat.le_trans (below_size (by repeat (first | (with_reducible first | exact HB.out | apply below_alloc | apply pw_below_drewN | apply below_drew1) | exact HB.out))) hn_)))) (below_size (by repeat (first | (with_reducible first | exact HB.out | apply below_alloc | apply pw_below_drewN | apply below_drew1) | exact HB.out)))); have n2_ := Aside0.mk (below_step (by repeat (first | (with_reducible first | exact HB.out | apply below_alloc | apply pw_below_drewN | apply below_drew1) | exact HB.out)) hb); clear HO_5; clear HB; have HO_5 := n0_; have HO323 := n1_; have HB := n2_; clear n0_ n1_ n2_; (try clear hb); (try clear hb2); (try clear hk); (try clear hi); (try clear ho0)))
            go_ret
            exact ⟨_, by first | rfl | (simp [errW_none, errW_some] <;> rfl) | (simp [*, errW_none, errW_some] <;> rfl), by (with_reducible repeat (first | apply Kd.V_alloc | apply Kd.V_drewN | apply Kd.V_drew)); exact HO323.out, by repeat (first | (with_reducible first | exact HB.out | apply below_alloc | apply pw_below_drewN | apply below_drew1) | exact HB.out)⟩
    · rw [if_neg c4] at H
      exact absurd H (by simp)
  · rw [if_neg c3] at H
    exact absurd H (by simp)
end Go.Proofs.Ythanlckjfghnkaa.PW
end
section
namespace Go.Proofs.Ythanlckjfghnkaa.Pm
open Go.RowKit Go.Proofs.YthanlckjfghnkaaW.PrintWords Go.Proofs.Ythanlckjfghnkaa.PW Go.Proofs.Ythanlckjfghnkaa.Pc Dg
set_option linter.unusedVariables false
set_option linter.unusedSimpArgs false
theorem trim : ∀ (n : Nat) (l : List Int), l.length = n → Dig 4294967296 l → n ≤ 1099511627776 → Ev (fun k => impl_magTrim.f k l) (D (val 4294967296 l).toNat) := by
  intro n
  induction n with
  | zero =>
    intro l hl hd _
    have : l = [] := List.length_eq_zero_iff.1 hl
    subst this
    refine Ev.step (f := fun _ => some []) (fun k => ?_) (ev_of fun _ => by rw [show (val 4294967296 ([] : List Int)).toNat = 0 from rfl, D_zero])
    simp only [impl_magTrim.f, impl_magTrim.l0]
    rw [if_neg (by simp)]
  | succ n ih =>
    intro l hl hd hn
    have e1 : wrap64 ((l.length : Int) - 1) = (n : Int) := by rw [wrapZ _ (by omega) (by omega)]; omega
    by_cases h0 : l.getD n 0 = 0
    · have hv := D_snoc0 n (by omega) h0
      rw [← hv]
      refine Ev.step (f := fun k => impl_magTrim.f k (l.take n)) (fun k => ?_) (ih _ (by simp; omega) (hd.take n) (by omega))
      simp only [impl_magTrim.f, impl_magTrim.l0]
      rw [e1, if_pos (by omega), if_pos (by omega), if_pos (by omega), rdN, if_pos h0, if_pos (by omega), Int.toNat_natCast]
    · have ht := D_top_of n (by omega) h0
      rw [D_of hd ht]
      refine Ev.step (f := fun _ => some l) (fun k => ?_) (ev_of fun _ => rfl)
      simp only [impl_magTrim.f, impl_magTrim.l0]
      rw [e1, if_pos (by omega), if_pos (by omega), if_pos (by omega), rdN, if_neg h0]
theorem bits_loop : ∀ (m : Nat) (d : Nat), bl d = m → ∀ n : Nat, n + m ≤ 1099511627776 → Ev (fun k => impl_magBits.l0 k (n : Int) (d : Int)) ((n + bl d : Nat) : Int) := by
  intro m
  induction m with
  | zero =>
    intro d hd n hn
    have := bl_eq_zero.1 hd
    subst this
    refine Ev.step (f := fun _ => some (n : Int)) (fun k => ?_) (ev_of fun _ => by rw [bl_zero]; rfl)
    simp only [impl_magBits.l0]
    rw [if_neg (by omega)]
  | succ m ih =>
    intro d hd n hn
    have h0 : d ≠ 0 := by intro h; subst h; rw [bl_zero] at hd; omega
    have hh := bl_half h0
    refine Ev.step (f := fun k => impl_magBits.l0 k ((n + 1 : Nat) : Int) ((d / 2 : Nat) : Int)) (fun k => ?_) ?_
    · simp only [impl_magBits.l0]
      rw [if_pos (by omega), wrapZ _ (by omega) (by omega)]
      rfl
    · have := ih (d / 2) (by omega) (n + 1) (by omega)
      rw [show n + bl d = n + 1 + bl (d / 2) by omega]
      exact this
theorem bits (n : Nat) (hb : bl n ≤ 1073741824) : Ev (fun k => impl_magBits.f k (D n)) ((bl n : Nat) : Int) := by
  unfold impl_magBits.f
  have hl := D_len n
  by_cases h : n = 0
  · subst h
    exact ifp (by rw [D_zero]; rfl) (ev_of fun _ => rfl)
  · have hp := D_pos h
    obtain ⟨d, hd, h1, h2, h3⟩ := D_last h
    have e1 : wrap64 (((D n).length : Int) - 1) = (((D n).length - 1 : Nat) : Int) := by rw [wrapZ _ (by omega) (by omega)]; omega
    refine ifn (by omega) ?_
    rw [e1]
    refine ifp (by omega) (ifp (by omega) ?_)
    rw [rdN, hd, wrapZ _ (by omega) (by omega), h3]
    have := bits_loop (bl d) d rfl (32 * ((D n).length - 1)) (by omega)
    rw [show ((32 * ((D n).length - 1) : Nat) : Int) = 32 * (((D n).length - 1 : Nat) : Int) by omega] at this
    exact this
def sgn (z : Int) : Int := if z < 0 then -1 else if z = 0 then 0 else 1
theorem compare_u32 (a b : Int) : cmp_Compare_uint32.f a b = some (sgn (a - b)) := by
  unfold cmp_Compare_uint32.f cmp_isNaN_uint32.f sgn
  have e1 : (a != a) = false := by simp
  have e2 : (b != b) = false := by simp
  simp only [e1, e2, Option.bind_some, Bool.false_eq_true, if_false]
  by_cases h1 : a < b
  · rw [if_pos h1, if_pos (by omega)]
  · rw [if_neg h1]
    by_cases h2 : a > b
    · rw [if_pos h2, if_neg (show ¬ a - b < 0 by omega), if_neg (show ¬ a - b = 0 by omega)]
    · rw [if_neg h2, if_neg (show ¬ a - b < 0 by omega), if_pos (show a - b = 0 by omega)]
theorem compare_i (a b : Int) : cmp_Compare_int.f a b = some (sgn (a - b)) := by
  unfold cmp_Compare_int.f cmp_isNaN_int.f sgn
  have e1 : (a != a) = false := by simp
  have e2 : (b != b) = false := by simp
  simp only [e1, e2, Option.bind_some, Bool.false_eq_true, if_false]
  by_cases h1 : a < b
  · rw [if_pos h1, if_pos (by omega)]
  · rw [if_neg h1]
    by_cases h2 : a > b
    · rw [if_pos h2, if_neg (show ¬ a - b < 0 by omega), if_neg (show ¬ a - b = 0 by omega)]
    · rw [if_neg h2, if_neg (show ¬ a - b < 0 by omega), if_pos (show a - b = 0 by omega)]
theorem cmp_loop (a b : List Int) (hl : a.length = b.length) (hm : a.length ≤ 1099511627776) (ha : Dig 4294967296 a) (hb : Dig 4294967296 b) :
    ∀ i : Nat, i ≤ a.length → a.drop i = b.drop i → Ev (fun k => impl_magCmp.l0 k a b ((i : Int) - 1)) (sgn (val 4294967296 a - val 4294967296 b)) := by
  intro i
  induction i with
  | zero =>
    intro _ h
    rw [List.drop_zero, List.drop_zero] at h
    subst h
    refine Ev.step (f := fun _ => some 0) (fun k => ?_) (ev_of fun _ => by rw [Int.sub_self]; rfl)
    simp only [impl_magCmp.l0]
    rw [if_neg (by omega)]
  | succ i ih =>
    intro hi h
    have e1 : ((i + 1 : Nat) : Int) - 1 = (i : Int) := by omega
    rw [e1]
    by_cases hx : a.getD i 0 = b.getD i 0
    · have h2 : a.drop i = b.drop i := by
        rw [List.drop_eq_getElem_cons (show i < a.length by omega), List.drop_eq_getElem_cons (show i < b.length by omega), h, ← getD_lt (show i < a.length by omega), ← getD_lt (show i < b.length by omega), hx]
      refine Ev.step (f := fun k => impl_magCmp.l0 k a b ((i : Int) - 1)) (fun k => ?_) (ih (by omega) h2)
      simp only [impl_magCmp.l0]
      rw [if_pos (by omega), if_pos (by omega), if_pos (by omega), if_pos (by omega), rdN, rdN, if_pos hx, wrapZ _ (by omega) (by omega)]
    · refine Ev.step (f := fun _ => some (sgn (a.getD i 0 - b.getD i 0))) (fun k => ?_) (ev_of fun _ => ?_)
      · simp only [impl_magCmp.l0]
        rw [if_pos (by omega), if_pos (by omega), if_pos (by omega), if_pos (by omega), rdN, rdN, if_neg hx, compare_u32]
        rfl
      · congr 1
        rcases Int.lt_or_gt_of_ne hx with h3 | h3
        · have := val_lt_of_digit (by decide) ha hb i h (by omega) h3
          unfold sgn; rw [if_pos (by omega), if_pos (by omega)]
        · have := val_lt_of_digit (by decide) hb ha i h.symm (by omega) h3
          unfold sgn; rw [if_neg (by omega), if_neg (by omega), if_neg (by omega), if_neg (by omega)]
theorem cmp (a b : Nat) (ha : bl a ≤ 1073741824) (hb : bl b ≤ 1073741824) : Ev (fun k => impl_magCmp.f k (D a) (D b)) (sgn ((a : Int) - b)) := by
  unfold impl_magCmp.f
  have h1 := D_len a
  have h2 := D_len b
  by_cases h : (D a).length = (D b).length
  · refine ifp (by omega) ?_
    have := cmp_loop (D a) (D b) h (by omega) (D_dig a) (D_dig b) (D a).length (Nat.le_refl _) (by rw [List.drop_length, h, List.drop_length])
    rw [D_val, D_val] at this
    rw [wrapZ _ (by omega) (by omega)]
    exact this
  · refine ifn (by omega) ?_
    rw [compare_i]
    refine ev_of fun _ => ?_
    show some _ = some _
    congr 1
    rcases Nat.lt_or_gt_of_ne h with h3 | h3
    · have := val_lt_of_length (by decide) (D_dig a) (D_dig b) (D_top b) h3
      rw [D_val, D_val] at this
      unfold sgn; rw [if_pos (by omega), if_pos (by omega)]
    · have := val_lt_of_length (by decide) (D_dig b) (D_dig a) (D_top a) h3
      rw [D_val, D_val] at this
      unfold sgn; rw [if_neg (by omega), if_neg (by omega), if_neg (by omega), if_neg (by omega)]
end Go.Proofs.Ythanlckjfghnkaa.Pm
end
section
namespace Go.Proofs.Ythanlckjfghnkaa.PW
open Go.RowKit Go.Proofs.YthanlckjfghnkaaW.PrintWords Go.Proofs.YthanlckjfghnkaaW.PrintLast Go.Proofs.YthanlckjfghnkaaW.PrintMore
attribute [local go_sem] max2_int min2_int max_two min_two max_three min_three max_four min_four   -- for this text's walks alone
set_option linter.unusedVariables false
set_option linter.unusedSimpArgs false
def impl_magAdd.l0 : Nat → List Int → List Int → List Int → Int → List Int → Int → Int → Option (List Int)
  | 0, _, _, _, _, _, _, _ => none
  | k + 1, x0, x1, x5, x6, x20, x21, x22 => if x22 < x21 then (if 0 ≤ x22 then (if x22 < (x20.length : Int) then (if x22 < (x1.length : Int) then (if x22 < (x5.length : Int) then (impl_magAdd.l0 k x0 x1 (x5.set (x22 : Int).toNat ((IntKind.u64.wrap ((IntKind.u64.wrap (x6 + (IntKind.u64.wrap (rd x20 x22)))) + (IntKind.u64.wrap (rd x1 x22)))) % 4294967296)) ((IntKind.u64.wrap ((IntKind.u64.wrap (x6 + (IntKind.u64.wrap (rd x20 x22)))) + (IntKind.u64.wrap (rd x1 x22)))) / 4294967296) x20 x21 (wrap64 (x22 + 1))) else (none)) else (if x22 < (x5.length : Int) then (impl_magAdd.l0 k x0 x1 (x5.set (x22 : Int).toNat ((IntKind.u64.wrap (x6 + (IntKind.u64.wrap (rd x20 x22)))) % 4294967296)) ((IntKind.u64.wrap (x6 + (IntKind.u64.wrap (rd x20 x22)))) / 4294967296) x20 x21 (wrap64 (x22 + 1))) else (none))) else (none)) else (none)) else (if 0 ≤ (x0.length : Int) then (if (x0.length : Int) < (x5.length : Int) then ((impl_magTrim.f k (x5.set ((x0.length : Int) : Int).toNat ((x6) % 4294967296))).bind fun t300 => (some t300)) else (none)) else (none))
def impl_magAdd.f (k : Nat) (l0 : List Int) (l1 : List Int) : Option (List Int) := if 0 ≤ (wrap64 ((l0.length : Int) + 1)) then (if (wrap64 ((l0.length : Int) + 1) : Int).toNat ≤ 70368744177664 then (impl_magAdd.l0 k l0 l1 (List.replicate (wrap64 ((l0.length : Int) + 1) : Int).toNat 0) 0 l0 (l0.length : Int) 0) else (none)) else (none)
theorem impl_magAdd.mono_l : ∀ k, (∀ y0 y1 y2 y3 y4 y5 y6, LeO (impl_magAdd.l0 k y0 y1 y2 y3 y4 y5 y6) (impl_magAdd.l0 (k + 1) y0 y1 y2 y3 y4 y5 y6))
  | 0 => fun _ _ _ _ _ _ _ r h => by simp [impl_magAdd.l0] at h
  | k + 1 => by
    have ih0 := impl_magAdd.mono_l k
    · intro y0 y1 y2 y3 y4 y5 y6
      unfold impl_magAdd.l0
      repeat' first
      | (with_reducible exact ih0 _ _ _ _ _ _ _)
      | (with_reducible exact impl_magTrim.mono _ _)
      | (with_reducible exact LeO.refl _)
      | (with_reducible exact LeO.none _)
      | (with_reducible refine LeO.ite ?_ ?_)
      | (with_reducible refine LeO.bind ?_ (fun _ => ?_))
      | exact ih0 _ _ _ _ _ _ _
      | exact impl_magTrim.mono _ _
      | exact LeO.none _
      | refine LeO.ite ?_ ?_
      | refine LeO.bind ?_ (fun _ => ?_)
theorem impl_magAdd.mono : ∀ a0 a1 k, LeO (impl_magAdd.f k a0 a1) (impl_magAdd.f (k + 1) a0 a1) := by
  intro a0 a1 k
  have ih0 := impl_magAdd.mono_l k
  unfold impl_magAdd.f
  repeat' first
      | (with_reducible exact ih0 _ _ _ _ _ _ _)
      | (with_reducible exact impl_magTrim.mono _ _)
      | (with_reducible exact LeO.refl _)
      | (with_reducible exact LeO.none _)
      | (with_reducible refine LeO.ite ?_ ?_)
      | (with_reducible refine LeO.bind ?_ (fun _ => ?_))
      | exact ih0 _ _ _ _ _ _ _
      | exact impl_magTrim.mono _ _
      | exact LeO.none _
      | refine LeO.ite ?_ ?_
      | refine LeO.bind ?_ (fun _ => ?_)
set_option maxHeartbeats 8000000 in
set_option maxRecDepth 100000 in
theorem impl_magAdd.calls_ge (k : Nat) (A0 : Option Addr) (c0 : Nat) (l0 : List Int) (A1 : Option Addr) (c1 : Nat) (l1 : List Int) (r : List Int) (w : World) (hr0 : Kd.C (Kd.int .u32) w A0 l0.length l0) (hc0 : l0.length ≤ c0) (hr1 : Kd.C (Kd.int .u32) w A1 l1.length l1) (hc1 : l1.length ≤ c1) (hle : decide (l0.length < l1.length) = false) (h : impl_magAdd.f k l0 l1 = some r) :
    Calls Try.prog 73 #[.slice A0 l0.length c0, .slice A1 l1.length c1] w fun e w' => ∃ v0_ : Value, e = .returned (v0_) ∧ Kd.V (Kd.int .u32) 94 w' w.heap.size (fun k_ => (w.heap.size ≤ k_)) v0_ r ∧ Below w.heap.size w w' := by
  have HR0 := Aside0.mk hr0
  have HC0 := Aside0.mk hc0
  clear hr0 hc0
  have HR1 := Aside0.mk hr1
  have HC1 := Aside0.mk hc1
  clear hr1 hc1
  have HB := Aside0.mk (Below.refl w.heap.size w)
  have H : (if 0 ≤ (wrap64 ((l0.length : Int) + 1)) then (if (wrap64 ((l0.length : Int) + 1) : Int).toNat ≤ 70368744177664 then (impl_magAdd.l0 k l0 l1 (List.replicate (wrap64 ((l0.length : Int) + 1) : Int).toNat 0) 0 l0 (l0.length : Int) 0) else (none)) else (none)) = some r := h
  clear h
  obtain ⟨ji3, hji3⟩ : ∃ j_ : Int, (wrap64 ((l0.length : Int) + 1)) = j_ := ⟨_, rfl⟩
  replace H : (if 0 ≤ (ji3) then (if (ji3 : Int).toNat ≤ 70368744177664 then (impl_magAdd.l0 k l0 l1 (List.replicate (ji3 : Int).toNat 0) 0 l0 (l0.length : Int) 0) else (none)) else (none)) = some r := by first | (rw [hji3] at H; exact H) | (simp only [hji3] at H ⊢; exact H)
  have hji3w : (IntKind.i64.wrap ((l0.length : Int) + 1)) = ji3 := (i64_w _).trans hji3
  by_cases c4 : 0 ≤ (ji3)
  · rw [if_pos c4] at H
    have c4b0 := eq_true c4
    have c4b1 : decide (0 ≤ (ji3)) = true := decide_eq_true c4
    clear c4
    by_cases c5 : (ji3 : Int).toNat ≤ 70368744177664
    · rw [if_pos c5] at H
      have c5b0 := eq_true c5
      have c5b1 : decide ((ji3 : Int).toNat ≤ 70368744177664) = true := decide_eq_true c5
      clear c5
      obtain ⟨y292, hy292⟩ : ∃ y_ : List Int, y_ = (List.replicate (ji3 : Int).toNat 0) := ⟨_, rfl⟩
      replace H : (impl_magAdd.l0 k l0 l1 y292 0 l0 (l0.length : Int) 0) = some r := by first | (rw [hy292]; with_reducible exact H) | (have H2_ := (Option.bind_some _ _).symm.trans H; rw [hy292]; with_reducible exact H2_) | (have H2_ := (Option.bind_some _ _).symm.trans H; with_reducible exact H2_) | with_reducible exact H | (rw [hy292]; exact H) | exact H
      have Ny292 := Aside0.mk hy292
      clear hy292
      have H' := Aside0.mk H
      clear H
      go_enter Try.func73, Try.ntmps73
      go_wp2_with (first | ((with_reducible refine gate_dst (N := 19) rfl ?_); refine Kd.R_make (Kd.int .u32) _ 94 rfl (N := 19) rfl 55 _ _ rfl ji3 rfl rfl Try.underlying55 (.int .u32 0) 4 info94 rfl (by decide) (by omega) 0 (ok := fun _ => True) (okp := fun _ => True) rfl (fun _ hk => hk) trivial (of_decide_eq_true (by first | (with_reducible assumption) | assumption)) (Nat.le_trans (Nat.mul_le_mul_right _ (of_decide_eq_true (by first | (with_reducible assumption) | assumption) : ji3.toNat ≤ 70368744177664)) (by omega)) (Below.refl _ _) (Nat.le_refl _) ?_; intro v293 w6 ho7 hb hg_ hnew_; clear hg_ hnew_; (first | rw [← Ny292.out] at ho7 | (simp only [Int.reduceToNat] at ho7; rw [← Ny292.out] at ho7)); have n0_ := Aside0.mk (Kd.R_lower (Kd.R_newM (M := fun k_ => (w.heap.size ≤ k_)) ho7 (below_size (by repeat (first | (with_reducible first | exact HB.out | apply below_alloc | apply pw_below_drewN | apply below_drew1) | exact HB.out))) (fun k_ h_ => h_)) (below_size (by repeat (first | (with_reducible first | exact HB.out | apply below_alloc | apply pw_below_drewN | apply below_drew1) | exact HB.out)))); have n1_ := Aside0.mk (below_step (by repeat (first | (with_reducible first | exact HB.out | apply below_alloc | apply pw_below_drewN | apply below_drew1) | exact HB.out)) hb); clear HB; have HO294 := n0_; have HB := n1_; clear n0_ n1_; clear hb ho7))
      go_loopg [6, 22] k (fun kq v6 v22 w' => ∃ (x5_1 : List Int) (x6_1 : Int) (x22_1 : Int), v6 = .int .u64 x6_1 ∧ v22 = .int .i64 x22_1 ∧ Aside0 (impl_magAdd.l0 kq l0 l1 x5_1 x6_1 l0 (l0.length : Int) x22_1 = some r) ∧ Aside0 (kq ≤ k) ∧ Aside0 (Kd.R (Kd.int .u32) 94 w' w.heap.size (fun k_ => (w.heap.size ≤ k_)) v293 x5_1) ∧ Aside0 (Below w.heap.size w w'))
      case atStart => exact ⟨(y292), (0), (0), (by first | rfl | (simp; done) | (simp [*]; done)), (by first | rfl | (simp; done) | (simp [*]; done)), H', ⟨Nat.le_refl _⟩, ⟨by (with_reducible repeat (first | apply Kd.R_alloc | apply Kd.R_drewN | apply Kd.R_drew)); exact Kd.R_mono HO294.out (fun _ hk => hk.1)⟩, ⟨by repeat (first | (with_reducible first | exact HB.out | apply below_alloc | apply pw_below_drewN | apply below_drew1) | exact HB.out)⟩⟩
      case round =>
        clear H'
        try clear c1
        try clear p2
        try clear c4
        try clear c4b0
        try clear c4b1
        try clear c5
        try clear c5b0
        try clear c5b1
        try clear p6
        try clear c7
        obtain ⟨x5_1, x6_1, x22_1, rfl, rfl, HA, HK1, HO_5, HB⟩ := hrel
        cases gk with
        | zero => exact absurd HA.out (by simp [impl_magAdd.l0])
        | succ k1 =>
          have H := HA.out
          clear HA
          simp only [impl_magAdd.l0] at H
          by_cases c8 : x22_1 < (l0.length : Int)
          · rw [if_pos c8] at H
            have c8b0 : decide (x22_1 < (l0.length : Int)) = true := decide_eq_true c8
            clear c8
            by_cases c9 : 0 ≤ x22_1
            · rw [if_pos c9] at H
              have c9b0 : decide (0 ≤ x22_1) = true := decide_eq_true c9
              clear c9
              by_cases c10 : x22_1 < (l0.length : Int)
              · rw [if_pos c10] at H
                have c10b0 : decide (x22_1 < (l0.length : Int)) = true := decide_eq_true c10
                clear c10
                by_cases c11 : x22_1 < (l1.length : Int)
                · rw [if_pos c11] at H
                  have c11b0 : decide (x22_1 < (l1.length : Int)) = true := decide_eq_true c11
                  clear c11
                  by_cases c12 : x22_1 < (x5_1.length : Int)
                  · rw [if_pos c12] at H
                    have c12b0 : decide (x22_1 < (x5_1.length : Int)) = true := decide_eq_true c12
                    clear c12
                    obtain ⟨y297, hy297⟩ : ∃ y_ : List Int, y_ = (x5_1.set (x22_1 : Int).toNat ((IntKind.u64.wrap ((IntKind.u64.wrap (x6_1 + (IntKind.u64.wrap (rd l0 x22_1)))) + (IntKind.u64.wrap (rd l1 x22_1)))) % 4294967296)) := ⟨_, rfl⟩
                    replace H : (impl_magAdd.l0 k1 l0 l1 y297 ((IntKind.u64.wrap ((IntKind.u64.wrap (x6_1 + (IntKind.u64.wrap (rd l0 x22_1)))) + (IntKind.u64.wrap (rd l1 x22_1)))) / 4294967296) l0 (l0.length : Int) (wrap64 (x22_1 + 1))) = some r := by first | (rw [hy297]; with_reducible exact H) | (have H2_ := (Option.bind_some _ _).symm.trans H; rw [hy297]; with_reducible exact H2_) | (have H2_ := (Option.bind_some _ _).symm.trans H; with_reducible exact H2_) | with_reducible exact H | (rw [hy297]; exact H) | exact H
                    have Ny297 := Aside0.mk hy297
                    clear hy297
                    have H' := Aside0.mk H
                    clear H
                    have p295 : 0 ≤ (x22_1 : Int) := of_decide_eq_true (by first | (with_reducible assumption) | assumption)
                    have q295 : x22_1 < (l0.length : Int) := of_decide_eq_true (by first | (with_reducible assumption) | assumption)
                    obtain ⟨ad295, e295, hx295_0⟩ := Kd.at_int HR0.out x22_1 p295 q295
                    cases e295
                    replace hx295_0 := (HB.out.cell (World.block_lt_of_cell? w _ hx295_0)).trans hx295_0
                    replace p295 := eq_true p295
                    replace q295 := eq_true q295
                    have p296 : 0 ≤ (x22_1 : Int) := of_decide_eq_true (by first | (with_reducible assumption) | assumption)
                    have q296 : x22_1 < (l1.length : Int) := of_decide_eq_true (by first | (with_reducible assumption) | assumption)
                    obtain ⟨ad296, e296, hx296_0⟩ := Kd.at_int HR1.out x22_1 p296 q296
                    cases e296
                    replace hx296_0 := (HB.out.cell (World.block_lt_of_cell? w _ hx296_0)).trans hx296_0
                    replace p296 := eq_true p296
                    replace q296 := eq_true q296
                    have p13 : 0 ≤ (x22_1 : Int) := of_decide_eq_true (by first | (with_reducible assumption) | assumption)
                    have q13 : (x22_1 : Int) < ((x5_1.length : Int) : Int) := of_decide_eq_true (by first | (with_reducible assumption) | assumption)
                    obtain ⟨go13, co13, eo13, gb13, gl13, cl13, HG13⟩ := Kd.R_form HO_5.out (by omega)
                    (first | cases eo13 | (injection eo13 with ea_ en_ ec_; (first | subst ea_ | (injection ea_ with ea_; subst ea_)); subst ec_; clear en_))
                    have GB13 := Aside0.mk gb13
                    have GG13 := Aside0.mk HG13
                    clear gb13 gl13 HG13
                    obtain ⟨hx13_0, hf13_0⟩ := Kd.R_celln 0 HO_5.out (x22_1 : Int) p13 q13
                    replace p13 := eq_true p13
                    replace q13 := eq_true q13
                    have HP14 := Kd.R_putg HO_5.out (x22_1 : Int) ((IntKind.u64.wrap ((IntKind.u64.wrap (x6_1 + (IntKind.u64.wrap (rd l0 x22_1)))) + (IntKind.u64.wrap (rd l1 x22_1)))) % 4294967296)
                    go_wp2_with (first | ((with_reducible refine gate_store (t := 94) (p := 46) rfl ?_); refine store_event (t := 94) (p := 46) (v := ?vo_w15) (w1 := (wr.setCell ⟨go13, (x22_1 : Int).toNat, none⟩ (.int .u32 ((IntKind.u64.wrap ((IntKind.u64.wrap (x6_1 + (IntKind.u64.wrap (rd l0 x22_1)))) + (IntKind.u64.wrap (rd l1 x22_1)))) % 4294967296)))) ?hg ?ho ?hn ?hr ?_; (case ho => rfl); (case hg => rfl); (case hn => rfl); (case hr => first | (go_simp; done) | (go_simp; rfl)); intro w15 hw; have hg : wr.grownBy w15 (some go13) := (by rw [hw]; exact HP14.2); have hp_ : Kd.R (Kd.int .u32) 94 w15 w.heap.size (fun k_ => (w.heap.size ≤ k_)) (.slice (some ⟨go13, 0, none⟩) x5_1.length co13) y297 := (by rw [hw, Ny297.out]; exact HP14.1); clear HP14; have n0_ := Aside0.mk (hp_); have n1_ := Aside0.mk ((by rw [hw]; exact below_set (HB.out) GB13.out : Below w.heap.size w w15)); clear HO_5; clear HB; have HO_5 := n0_; have HB := n1_; clear n0_ n1_; clear hg hw hp_))
                    go_roundg k1
                    case measure => have := HK1.out; omega
                    case rel => exact ⟨(y297), ((IntKind.u64.wrap ((IntKind.u64.wrap (x6_1 + (IntKind.u64.wrap (rd l0 x22_1)))) + (IntKind.u64.wrap (rd l1 x22_1)))) / 4294967296), (wrap64 (x22_1 + 1)), (by first | rfl | (simp; done) | (simp [*]; done)), (by first | rfl | (simp; done) | (simp [*]; done)), H', ⟨by have := HK1.out; omega⟩, ⟨by (with_reducible repeat (first | apply Kd.R_alloc | apply Kd.R_drewN | apply Kd.R_drew)); exact HO_5.out⟩, ⟨by repeat (first | (with_reducible first | exact HB.out | apply below_alloc | apply pw_below_drewN | apply below_drew1) | exact HB.out)⟩⟩
                  · rw [if_neg c12] at H
                    exact absurd H (by simp)
                · rw [if_neg c11] at H
                  have c11b0 : decide (x22_1 < (l1.length : Int)) = false := decide_eq_false c11
                  clear c11
                  by_cases c16 : x22_1 < (x5_1.length : Int)
                  · rw [if_pos c16] at H
                    have c16b0 : decide (x22_1 < (x5_1.length : Int)) = true := decide_eq_true c16
                    clear c16
                    obtain ⟨y298, hy298⟩ : ∃ y_ : List Int, y_ = (x5_1.set (x22_1 : Int).toNat ((IntKind.u64.wrap (x6_1 + (IntKind.u64.wrap (rd l0 x22_1)))) % 4294967296)) := ⟨_, rfl⟩
                    replace H : (impl_magAdd.l0 k1 l0 l1 y298 ((IntKind.u64.wrap (x6_1 + (IntKind.u64.wrap (rd l0 x22_1)))) / 4294967296) l0 (l0.length : Int) (wrap64 (x22_1 + 1))) = some r := by first | (rw [hy298]; with_reducible exact H) | (have H2_ := (Option.bind_some _ _).symm.trans H; rw [hy298]; with_reducible exact H2_) | (have H2_ := (Option.bind_some _ _).symm.trans H; with_reducible exact H2_) | with_reducible exact H | (rw [hy298]; exact H) | exact H
                    have Ny298 := Aside0.mk hy298
                    clear hy298
                    have H' := Aside0.mk H
                    clear H
                    have p295 : 0 ≤ (x22_1 : Int) := of_decide_eq_true (by first | (with_reducible assumption) | assumption)
                    have q295 : x22_1 < (l0.length : Int) := of_decide_eq_true (by first | (with_reducible assumption) | assumption)
                    obtain ⟨ad295, e295, hx295_0⟩ := Kd.at_int HR0.out x22_1 p295 q295
                    cases e295
                    replace hx295_0 := (HB.out.cell (World.block_lt_of_cell? w _ hx295_0)).trans hx295_0
                    replace p295 := eq_true p295
                    replace q295 := eq_true q295
                    have p17 : 0 ≤ (x22_1 : Int) := of_decide_eq_true (by first | (with_reducible assumption) | assumption)
                    have q17 : (x22_1 : Int) < ((x5_1.length : Int) : Int) := of_decide_eq_true (by first | (with_reducible assumption) | assumption)
                    obtain ⟨go17, co17, eo17, gb17, gl17, cl17, HG17⟩ := Kd.R_form HO_5.out (by omega)
                    (first | cases eo17 | (injection eo17 with ea_ en_ ec_; (first | subst ea_ | (injection ea_ with ea_; subst ea_)); subst ec_; clear en_))
                    have GB17 := Aside0.mk gb17
                    have GG17 := Aside0.mk HG17
                    clear gb17 gl17 HG17
                    obtain ⟨hx17_0, hf17_0⟩ := Kd.R_celln 0 HO_5.out (x22_1 : Int) p17 q17
                    replace p17 := eq_true p17
                    replace q17 := eq_true q17
                    have HP18 := Kd.R_putg HO_5.out (x22_1 : Int) ((IntKind.u64.wrap (x6_1 + (IntKind.u64.wrap (rd l0 x22_1)))) % 4294967296)
                    go_wp2_with (first | ((with_reducible refine gate_store (t := 94) (p := 46) rfl ?_); refine store_event (t := 94) (p := 46) (v := ?vo_w19) (w1 := (wr.setCell ⟨go17, (x22_1 : Int).toNat, none⟩ (.int .u32 ((IntKind.u64.wrap (x6_1 + (IntKind.u64.wrap (rd l0 x22_1)))) % 4294967296)))) ?hg ?ho ?hn ?hr ?_; (case ho => rfl); (case hg => rfl); (case hn => rfl); (case hr => first | (go_simp; done) | (go_simp; rfl)); intro w19 hw; have hg : wr.grownBy w19 (some go17) := (by rw [hw]; exact HP18.2); have hp_ : Kd.R (Kd.int .u32) 94 w19 w.heap.size (fun k_ => (w.heap.size ≤ k_)) (.slice (some ⟨go17, 0, none⟩) x5_1.length co17) y298 := (by rw [hw, Ny298.out]; exact HP18.1); clear HP18; have n0_ := Aside0.mk (hp_); have n1_ := Aside0.mk ((by rw [hw]; exact below_set (HB.out) GB17.out : Below w.heap.size w w19)); clear HO_5; clear HB; have HO_5 := n0_; have HB := n1_; clear n0_ n1_; clear hg hw hp_))
                    go_roundg k1
                    case measure => have := HK1.out; omega
                    case rel => exact ⟨(y298), ((IntKind.u64.wrap (x6_1 + (IntKind.u64.wrap (rd l0 x22_1)))) / 4294967296), (wrap64 (x22_1 + 1)), (by first | rfl | (simp; done) | (simp [*]; done)), (by first | rfl | (simp; done) | (simp [*]; done)), H', ⟨by have := HK1.out; omega⟩, ⟨by (with_reducible repeat (first | apply Kd.R_alloc | apply Kd.R_drewN | apply Kd.R_drew)); exact HO_5.out⟩, ⟨by repeat (first | (with_reducible first | exact HB.out | apply below_alloc | apply pw_below_drewN | apply below_drew1) | exact HB.out)⟩⟩
                  · rw [if_neg c16] at H
                    exact absurd H (by simp)
              · rw [if_neg c10] at H
                exact absurd H (by simp)
            · rw [if_neg c9] at H
              exact absurd H (by simp)
          · rw [if_neg c8] at H
            have c8b0 : decide (x22_1 < (l0.length : Int)) = false := decide_eq_false c8
            clear c8
            by_cases c20 : 0 ≤ (l0.length : Int)
            · rw [if_pos c20] at H
              have c20b0 : decide (0 ≤ (l0.length : Int)) = true := decide_eq_true c20
              have c20b1 : decide (0 ≤ l0.length) = true := decide_eq_true (by omega)
              clear c20
              by_cases c21 : (l0.length : Int) < (x5_1.length : Int)
              · rw [if_pos c21] at H
                have c21b0 : decide ((l0.length : Int) < (x5_1.length : Int)) = true := decide_eq_true c21
                have c21b1 : decide (l0.length < x5_1.length) = true := decide_eq_true (Int.ofNat_lt.mp c21)
                clear c21
                obtain ⟨y299, hy299⟩ : ∃ y_ : List Int, y_ = (x5_1.set ((l0.length : Int) : Int).toNat ((x6_1) % 4294967296)) := ⟨_, rfl⟩
                replace H : ((impl_magTrim.f k1 y299).bind fun t300 => (some t300)) = some r := by first | (rw [hy299]; with_reducible exact H) | (have H2_ := (Option.bind_some _ _).symm.trans H; rw [hy299]; with_reducible exact H2_) | (have H2_ := (Option.bind_some _ _).symm.trans H; with_reducible exact H2_) | with_reducible exact H | (rw [hy299]; exact H) | exact H
                have Ny299 := Aside0.mk hy299
                clear hy299
                replace H := Option.bind_eq_some_iff.mp H
                obtain ⟨t300, A230, H⟩ := H
                replace H : (some t300) = some r := H
                have A23 := Aside0.mk A230
                clear A230
                obtain rfl := Option.some.inj H
                have p22 : 0 ≤ ((l0.length : Int) : Int) := of_decide_eq_true (by first | (with_reducible assumption) | assumption)
                have q22 : ((l0.length : Int) : Int) < ((x5_1.length : Int) : Int) := of_decide_eq_true (by first | (with_reducible assumption) | assumption)
                obtain ⟨go22, co22, eo22, gb22, gl22, cl22, HG22⟩ := Kd.R_form HO_5.out (by omega)
                (first | cases eo22 | (injection eo22 with ea_ en_ ec_; (first | subst ea_ | (injection ea_ with ea_; subst ea_)); subst ec_; clear en_))
                have GB22 := Aside0.mk gb22
                have GG22 := Aside0.mk HG22
                clear gb22 gl22 HG22
                obtain ⟨hx22_0, hf22_0⟩ := Kd.R_celln 0 HO_5.out ((l0.length : Int) : Int) p22 q22
                simp only [Int.toNat_natCast] at hx22_0 hf22_0
                replace p22 := eq_true p22
                replace q22 := eq_true q22
                have HP24 := Kd.R_putg HO_5.out ((l0.length : Int) : Int) ((x6_1) % 4294967296)
                go_wp2_with (first | ((with_reducible refine gate_store (t := 94) (p := 55) rfl ?_); refine store_event (t := 94) (p := 55) (v := ?vo_w25) (w1 := (wr.setCell ⟨go22, ((l0.length : Int) : Int).toNat, none⟩ (.int .u32 ((x6_1) % 4294967296)))) ?hg ?ho ?hn ?hr ?_; (case ho => rfl); (case hg => rfl); (case hn => rfl); (case hr => first | (go_simp; done) | (go_simp; rfl)); intro w25 hw; have hg : wr.grownBy w25 (some go22) := (by rw [hw]; exact HP24.2); have hp_ : Kd.R (Kd.int .u32) 94 w25 w.heap.size (fun k_ => (w.heap.size ≤ k_)) (.slice (some ⟨go22, 0, none⟩) x5_1.length co22) y299 := (by rw [hw, Ny299.out]; exact HP24.1); clear HP24; have n0_ := Aside0.mk (hp_); have n1_ := Aside0.mk ((by rw [hw]; exact below_set (HB.out) GB22.out : Below w.heap.size w w25)); clear HO_5; clear HB; have HO_5 := n0_; have HB := n1_; clear n0_ n1_; clear hg hw hp_) | ((with_reducible refine gate_callee (f := 75) rfl ?_); refine goesL_ (some 57) rfl rfl Try.func75 (by kernel_rfl) rfl #[.slice (some ⟨go22, 0, none⟩) y299.length co22] rfl (by (try simp only [List.map_toArray, List.map_cons, List.map_nil]); first | done | (rw [show y299.length = x5_1.length from (Kd.R_reads' HO_5.out).1.symm] <;> rfl) | rfl | (simp only [List.length_drop, List.length_take]; rfl)) ?_; (with_reducible refine (impl_magTrim.calls k1 (fun k_ => some k_ = (.slice (some ⟨go22, 0, none⟩) x5_1.length co22 : Value).ownBlock) _ _ y299 t300 _ ?side1 A23.out).mono ?_); (case side1 => rw [show y299.length = x5_1.length from (Kd.R_reads' HO_5.out).1.symm]; exact Kd.R_V (Kd.R_tight rfl (HO_5.out))); rintro e w26 ⟨v301, rfl, ho0, hb⟩; refine ⟨_, rfl, ?_⟩; have n0_ := Aside0.mk (Kd.R_below (by (with_reducible repeat (first | apply Kd.R_alloc | apply Kd.R_drewN | apply Kd.R_drew)); exact HO_5.out) hb); have n1_ := Aside0.mk (Kd.V_lower (Kd.V_mono (ok' := fun k_ => (w.heap.size ≤ k_)) ho0 (fun k_ hk_ => Or.elim hk_ (fun hs_ => ((HO_5.out).1 k_ hs_.symm)) (fun hn_ => (Nat.le_trans (below_size (by repeat (first | (with_reducible first | exact HB.out | apply below_alloc | apply pw_below_drewN | apply below_drew1) | exact HB.out))) hn_)))) (below_size (by repeat (first | (with_reducible first | exact HB.out | apply below_alloc | apply pw_below_drewN | apply below_drew1) | exact HB.out)))); have n2_ := Aside0.mk (below_step (by repeat (first | (with_reducible first | exact HB.out | apply below_alloc | apply pw_below_drewN | apply below_drew1) | exact HB.out)) hb); clear HO_5; clear HB; have HO_5 := n0_; have HO302 := n1_; have HB := n2_; clear n0_ n1_ n2_; (try clear hb); (try clear hb2); (try clear hk); (try clear hi); (try clear ho0)))
                go_ret
                exact ⟨_, by first | rfl | (simp [errW_none, errW_some] <;> rfl) | (simp only [← hji3]; first | rfl | (simp [errW_none, errW_some] <;> rfl)) | (simp [*, errW_none, errW_some] <;> rfl), by (with_reducible repeat (first | apply Kd.V_alloc | apply Kd.V_drewN | apply Kd.V_drew)); exact HO302.out, by repeat (first | (with_reducible first | exact HB.out | apply below_alloc | apply pw_below_drewN | apply below_drew1) | exact HB.out)⟩
              · rw [if_neg c21] at H
                exact absurd H (by simp)
            · rw [if_neg c20] at H
              exact absurd H (by simp)
    · rw [if_neg c5] at H
      exact absurd H (by simp)
  · rw [if_neg c4] at H
    exact absurd H (by simp)
set_option maxHeartbeats 8000000 in
set_option maxRecDepth 100000 in
theorem impl_magAdd.calls_lt (k : Nat) (A0 : Option Addr) (c0 : Nat) (l0 : List Int) (A1 : Option Addr) (c1 : Nat) (l1 : List Int) (r : List Int) (w : World) (hr0 : Kd.C (Kd.int .u32) w A0 l0.length l0) (hc0 : l0.length ≤ c0) (hr1 : Kd.C (Kd.int .u32) w A1 l1.length l1) (hc1 : l1.length ≤ c1) (hle : decide (l1.length < l0.length) = true) (h : impl_magAdd.f k l0 l1 = some r) :
    Calls Try.prog 73 #[.slice A1 l1.length c1, .slice A0 l0.length c0] w fun e w' => ∃ v0_ : Value, e = .returned (v0_) ∧ Kd.V (Kd.int .u32) 94 w' w.heap.size (fun k_ => (w.heap.size ≤ k_)) v0_ r ∧ Below w.heap.size w w' := by
  have HR0 := Aside0.mk hr0
  have HC0 := Aside0.mk hc0
  clear hr0 hc0
  have HR1 := Aside0.mk hr1
  have HC1 := Aside0.mk hc1
  clear hr1 hc1
  have HB := Aside0.mk (Below.refl w.heap.size w)
  have H : (if 0 ≤ (wrap64 ((l0.length : Int) + 1)) then (if (wrap64 ((l0.length : Int) + 1) : Int).toNat ≤ 70368744177664 then (impl_magAdd.l0 k l0 l1 (List.replicate (wrap64 ((l0.length : Int) + 1) : Int).toNat 0) 0 l0 (l0.length : Int) 0) else (none)) else (none)) = some r := h
  clear h
  obtain ⟨ji3, hji3⟩ : ∃ j_ : Int, (wrap64 ((l0.length : Int) + 1)) = j_ := ⟨_, rfl⟩
  replace H : (if 0 ≤ (ji3) then (if (ji3 : Int).toNat ≤ 70368744177664 then (impl_magAdd.l0 k l0 l1 (List.replicate (ji3 : Int).toNat 0) 0 l0 (l0.length : Int) 0) else (none)) else (none)) = some r := by first | (rw [hji3] at H; exact H) | (simp only [hji3] at H ⊢; exact H)
  have hji3w : (IntKind.i64.wrap ((l0.length : Int) + 1)) = ji3 := (i64_w _).trans hji3
  by_cases c4 : 0 ≤ (ji3)
  · rw [if_pos c4] at H
    have c4b0 := eq_true c4
    have c4b1 : decide (0 ≤ (ji3)) = true := decide_eq_true c4
    clear c4
    by_cases c5 : (ji3 : Int).toNat ≤ 70368744177664
    · rw [if_pos c5] at H
      have c5b0 := eq_true c5
      have c5b1 : decide ((ji3 : Int).toNat ≤ 70368744177664) = true := decide_eq_true c5
      clear c5
      obtain ⟨y292, hy292⟩ : ∃ y_ : List Int, y_ = (List.replicate (ji3 : Int).toNat 0) := ⟨_, rfl⟩
      replace H : (impl_magAdd.l0 k l0 l1 y292 0 l0 (l0.length : Int) 0) = some r := by first | (rw [hy292]; with_reducible exact H) | (have H2_ := (Option.bind_some _ _).symm.trans H; rw [hy292]; with_reducible exact H2_) | (have H2_ := (Option.bind_some _ _).symm.trans H; with_reducible exact H2_) | with_reducible exact H | (rw [hy292]; exact H) | exact H
      have Ny292 := Aside0.mk hy292
      clear hy292
      have H' := Aside0.mk H
      clear H
      go_enter Try.func73, Try.ntmps73
      go_wp2_with (first | ((with_reducible refine gate_dst (N := 19) rfl ?_); refine Kd.R_make (Kd.int .u32) _ 94 rfl (N := 19) rfl 55 _ _ rfl ji3 rfl rfl Try.underlying55 (.int .u32 0) 4 info94 rfl (by decide) (by omega) 0 (ok := fun _ => True) (okp := fun _ => True) rfl (fun _ hk => hk) trivial (of_decide_eq_true (by first | (with_reducible assumption) | assumption)) (Nat.le_trans (Nat.mul_le_mul_right _ (of_decide_eq_true (by first | (with_reducible assumption) | assumption) : ji3.toNat ≤ 70368744177664)) (by omega)) (Below.refl _ _) (Nat.le_refl _) ?_; intro v293 w6 ho7 hb hg_ hnew_; clear hg_ hnew_; (first | rw [← Ny292.out] at ho7 | (simp only [Int.reduceToNat] at ho7; rw [← Ny292.out] at ho7)); have n0_ := Aside0.mk (Kd.R_lower (Kd.R_newM (M := fun k_ => (w.heap.size ≤ k_)) ho7 (below_size (by repeat (first | (with_reducible first | exact HB.out | apply below_alloc | apply pw_below_drewN | apply below_drew1) | exact HB.out))) (fun k_ h_ => h_)) (below_size (by repeat (first | (with_reducible first | exact HB.out | apply below_alloc | apply pw_below_drewN | apply below_drew1) | exact HB.out)))); have n1_ := Aside0.mk (below_step (by repeat (first | (with_reducible first | exact HB.out | apply below_alloc | apply pw_below_drewN | apply below_drew1) | exact HB.out)) hb); clear HB; have HO294 := n0_; have HB := n1_; clear n0_ n1_; clear hb ho7))
      go_loopg [6, 22] k (fun kq v6 v22 w' => ∃ (x5_1 : List Int) (x6_1 : Int) (x22_1 : Int), v6 = .int .u64 x6_1 ∧ v22 = .int .i64 x22_1 ∧ Aside0 (impl_magAdd.l0 kq l0 l1 x5_1 x6_1 l0 (l0.length : Int) x22_1 = some r) ∧ Aside0 (kq ≤ k) ∧ Aside0 (Kd.R (Kd.int .u32) 94 w' w.heap.size (fun k_ => (w.heap.size ≤ k_)) v293 x5_1) ∧ Aside0 (Below w.heap.size w w'))
      case atStart => exact ⟨(y292), (0), (0), (by first | rfl | (simp; done) | (simp [*]; done)), (by first | rfl | (simp; done) | (simp [*]; done)), H', ⟨Nat.le_refl _⟩, ⟨by (with_reducible repeat (first | apply Kd.R_alloc | apply Kd.R_drewN | apply Kd.R_drew)); exact Kd.R_mono HO294.out (fun _ hk => hk.1)⟩, ⟨by repeat (first | (with_reducible first | exact HB.out | apply below_alloc | apply pw_below_drewN | apply below_drew1) | exact HB.out)⟩⟩
      case round =>
        clear H'
        try clear c1
        try clear p2
        try clear c4
        try clear c4b0
        try clear c4b1
        try clear c5
        try clear c5b0
        try clear c5b1
        try clear p6
        try clear c7
        obtain ⟨x5_1, x6_1, x22_1, rfl, rfl, HA, HK1, HO_5, HB⟩ := hrel
        cases gk with
        | zero => exact absurd HA.out (by simp [impl_magAdd.l0])
        | succ k1 =>
          have H := HA.out
          clear HA
          simp only [impl_magAdd.l0] at H
          by_cases c8 : x22_1 < (l0.length : Int)
          · rw [if_pos c8] at H
            have c8b0 : decide (x22_1 < (l0.length : Int)) = true := decide_eq_true c8
            clear c8
            by_cases c9 : 0 ≤ x22_1
            · rw [if_pos c9] at H
              have c9b0 : decide (0 ≤ x22_1) = true := decide_eq_true c9
              clear c9
              by_cases c10 : x22_1 < (l0.length : Int)
              · rw [if_pos c10] at H
                have c10b0 : decide (x22_1 < (l0.length : Int)) = true := decide_eq_true c10
                clear c10
                by_cases c11 : x22_1 < (l1.length : Int)
                · rw [if_pos c11] at H
                  have c11b0 : decide (x22_1 < (l1.length : Int)) = true := decide_eq_true c11
                  clear c11
                  by_cases c12 : x22_1 < (x5_1.length : Int)
                  · rw [if_pos c12] at H
                    have c12b0 : decide (x22_1 < (x5_1.length : Int)) = true := decide_eq_true c12
                    clear c12
                    obtain ⟨y297, hy297⟩ : ∃ y_ : List Int, y_ = (x5_1.set (x22_1 : Int).toNat ((IntKind.u64.wrap ((IntKind.u64.wrap (x6_1 + (IntKind.u64.wrap (rd l0 x22_1)))) + (IntKind.u64.wrap (rd l1 x22_1)))) % 4294967296)) := ⟨_, rfl⟩
                    replace H : (impl_magAdd.l0 k1 l0 l1 y297 ((IntKind.u64.wrap ((IntKind.u64.wrap (x6_1 + (IntKind.u64.wrap (rd l0 x22_1)))) + (IntKind.u64.wrap (rd l1 x22_1)))) / 4294967296) l0 (l0.length : Int) (wrap64 (x22_1 + 1))) = some r := by first | (rw [hy297]; with_reducible exact H) | (have H2_ := (Option.bind_some _ _).symm.trans H; rw [hy297]; with_reducible exact H2_) | (have H2_ := (Option.bind_some _ _).symm.trans H; with_reducible exact H2_) | with_reducible exact H | (rw [hy297]; exact H) | exact H
                    have Ny297 := Aside0.mk hy297
                    clear hy297
                    have H' := Aside0.mk H
                    clear H
                    have p295 : 0 ≤ (x22_1 : Int) := of_decide_eq_true (by first | (with_reducible assumption) | assumption)
                    have q295 : x22_1 < (l0.length : Int) := of_decide_eq_true (by first | (with_reducible assumption) | assumption)
                    obtain ⟨ad295, e295, hx295_0⟩ := Kd.at_int HR0.out x22_1 p295 q295
                    cases e295
                    replace hx295_0 := (HB.out.cell (World.block_lt_of_cell? w _ hx295_0)).trans hx295_0
                    replace p295 := eq_true p295
                    replace q295 := eq_true q295
                    have p296 : 0 ≤ (x22_1 : Int) := of_decide_eq_true (by first | (with_reducible assumption) | assumption)
                    have q296 : x22_1 < (l1.length : Int) := of_decide_eq_true (by first | (with_reducible assumption) | assumption)
                    obtain ⟨ad296, e296, hx296_0⟩ := Kd.at_int HR1.out x22_1 p296 q296
                    cases e296
                    replace hx296_0 := (HB.out.cell (World.block_lt_of_cell? w _ hx296_0)).trans hx296_0
                    replace p296 := eq_true p296
                    replace q296 := eq_true q296
                    have p13 : 0 ≤ (x22_1 : Int) := of_decide_eq_true (by first | (with_reducible assumption) | assumption)
                    have q13 : (x22_1 : Int) < ((x5_1.length : Int) : Int) := of_decide_eq_true (by first | (with_reducible assumption) | assumption)
                    obtain ⟨go13, co13, eo13, gb13, gl13, cl13, HG13⟩ := Kd.R_form HO_5.out (by omega)
                    (first | cases eo13 | (injection eo13 with ea_ en_ ec_; (first | subst ea_ | (injection ea_ with ea_; subst ea_)); subst ec_; clear en_))
                    have GB13 := Aside0.mk gb13
                    have GG13 := Aside0.mk HG13
                    clear gb13 gl13 HG13
                    obtain ⟨hx13_0, hf13_0⟩ := Kd.R_celln 0 HO_5.out (x22_1 : Int) p13 q13
                    replace p13 := eq_true p13
                    replace q13 := eq_true q13
                    have HP14 := Kd.R_putg HO_5.out (x22_1 : Int) ((IntKind.u64.wrap ((IntKind.u64.wrap (x6_1 + (IntKind.u64.wrap (rd l0 x22_1)))) + (IntKind.u64.wrap (rd l1 x22_1)))) % 4294967296)
                    go_wp2_with (first | ((with_reducible refine gate_store (t := 94) (p := 46) rfl ?_); refine store_event (t := 94) (p := 46) (v := ?vo_w15) (w1 := (wr.setCell ⟨go13, (x22_1 : Int).toNat, none⟩ (.int .u32 ((IntKind.u64.wrap ((IntKind.u64.wrap (x6_1 + (IntKind.u64.wrap (rd l0 x22_1)))) + (IntKind.u64.wrap (rd l1 x22_1)))) % 4294967296)))) ?hg ?ho ?hn ?hr ?_; (case ho => rfl); (case hg => rfl); (case hn => rfl); (case hr => first | (go_simp; done) | (go_simp; rfl)); intro w15 hw; have hg : wr.grownBy w15 (some go13) := (by rw [hw]; exact HP14.2); have hp_ : Kd.R (Kd.int .u32) 94 w15 w.heap.size (fun k_ => (w.heap.size ≤ k_)) (.slice (some ⟨go13, 0, none⟩) x5_1.length co13) y297 := (by rw [hw, Ny297.out]; exact HP14.1); clear HP14; have n0_ := Aside0.mk (hp_); have n1_ := Aside0.mk ((by rw [hw]; exact below_set (HB.out) GB13.out : Below w.heap.size w w15)); clear HO_5; clear HB; have HO_5 := n0_; have HB := n1_; clear n0_ n1_; clear hg hw hp_))
                    go_roundg k1
                    case measure => have := HK1.out; omega
                    case rel => exact ⟨(y297), ((IntKind.u64.wrap ((IntKind.u64.wrap (x6_1 + (IntKind.u64.wrap (rd l0 x22_1)))) + (IntKind.u64.wrap (rd l1 x22_1)))) / 4294967296), (wrap64 (x22_1 + 1)), (by first | rfl | (simp; done) | (simp [*]; done)), (by first | rfl | (simp; done) | (simp [*]; done)), H', ⟨by have := HK1.out; omega⟩, ⟨by (with_reducible repeat (first | apply Kd.R_alloc | apply Kd.R_drewN | apply Kd.R_drew)); exact HO_5.out⟩, ⟨by repeat (first | (with_reducible first | exact HB.out | apply below_alloc | apply pw_below_drewN | apply below_drew1) | exact HB.out)⟩⟩
                  · rw [if_neg c12] at H
                    exact absurd H (by simp)
                · rw [if_neg c11] at H
                  have c11b0 : decide (x22_1 < (l1.length : Int)) = false := decide_eq_false c11
                  clear c11
                  by_cases c16 : x22_1 < (x5_1.length : Int)
                  · rw [if_pos c16] at H
                    have c16b0 : decide (x22_1 < (x5_1.length : Int)) = true := decide_eq_true c16
                    clear c16
                    obtain ⟨y298, hy298⟩ : ∃ y_ : List Int, y_ = (x5_1.set (x22_1 : Int).toNat ((IntKind.u64.wrap (x6_1 + (IntKind.u64.wrap (rd l0 x22_1)))) % 4294967296)) := ⟨_, rfl⟩
                    replace H : (impl_magAdd.l0 k1 l0 l1 y298 ((IntKind.u64.wrap (x6_1 + (IntKind.u64.wrap (rd l0 x22_1)))) / 4294967296) l0 (l0.length : Int) (wrap64 (x22_1 + 1))) = some r := by first | (rw [hy298]; with_reducible exact H) | (have H2_ := (Option.bind_some _ _).symm.trans H; rw [hy298]; with_reducible exact H2_) | (have H2_ := (Option.bind_some _ _).symm.trans H; with_reducible exact H2_) | with_reducible exact H | (rw [hy298]; exact H) | exact H
                    have Ny298 := Aside0.mk hy298
                    clear hy298
                    have H' := Aside0.mk H
                    clear H
                    have p295 : 0 ≤ (x22_1 : Int) := of_decide_eq_true (by first | (with_reducible assumption) | assumption)
                    have q295 : x22_1 < (l0.length : Int) := of_decide_eq_true (by first | (with_reducible assumption) | assumption)
                    obtain ⟨ad295, e295, hx295_0⟩ := Kd.at_int HR0.out x22_1 p295 q295
                    cases e295
                    replace hx295_0 := (HB.out.cell (World.block_lt_of_cell? w _ hx295_0)).trans hx295_0
                    replace p295 := eq_true p295
                    replace q295 := eq_true q295
                    have p17 : 0 ≤ (x22_1 : Int) := of_decide_eq_true (by first | (with_reducible assumption) | assumption)
                    have q17 : (x22_1 : Int) < ((x5_1.length : Int) : Int) := of_decide_eq_true (by first | (with_reducible assumption) | assumption)
                    obtain ⟨go17, co17, eo17, gb17, gl17, cl17, HG17⟩ := Kd.R_form HO_5.out (by omega)
                    (first | cases eo17 | (injection eo17 with ea_ en_ ec_; (first | subst ea_ | (injection ea_ with ea_; subst ea_)); subst ec_; clear en_))
                    have GB17 := Aside0.mk gb17
                    have GG17 := Aside0.mk HG17
                    clear gb17 gl17 HG17
                    obtain ⟨hx17_0, hf17_0⟩ := Kd.R_celln 0 HO_5.out (x22_1 : Int) p17 q17
                    replace p17 := eq_true p17
                    replace q17 := eq_true q17
                    have HP18 := Kd.R_putg HO_5.out (x22_1 : Int) ((IntKind.u64.wrap (x6_1 + (IntKind.u64.wrap (rd l0 x22_1)))) % 4294967296)
                    go_wp2_with (first | ((with_reducible refine gate_store (t := 94) (p := 46) rfl ?_); refine store_event (t := 94) (p := 46) (v := ?vo_w19) (w1 := (wr.setCell ⟨go17, (x22_1 : Int).toNat, none⟩ (.int .u32 ((IntKind.u64.wrap (x6_1 + (IntKind.u64.wrap (rd l0 x22_1)))) % 4294967296)))) ?hg ?ho ?hn ?hr ?_; (case ho => rfl); (case hg => rfl); (case hn => rfl); (case hr => first | (go_simp; done) | (go_simp; rfl)); intro w19 hw; have hg : wr.grownBy w19 (some go17) := (by rw [hw]; exact HP18.2); have hp_ : Kd.R (Kd.int .u32) 94 w19 w.heap.size (fun k_ => (w.heap.size ≤ k_)) (.slice (some ⟨go17, 0, none⟩) x5_1.length co17) y298 := (by rw [hw, Ny298.out]; exact HP18.1); clear HP18; have n0_ := Aside0.mk (hp_); have n1_ := Aside0.mk ((by rw [hw]; exact below_set (HB.out) GB17.out : Below w.heap.size w w19)); clear HO_5; clear HB; have HO_5 := n0_; have HB := n1_; clear n0_ n1_; clear hg hw hp_))
                    go_roundg k1
                    case measure => have := HK1.out; omega
                    case rel => exact ⟨(y298), ((IntKind.u64.wrap (x6_1 + (IntKind.u64.wrap (rd l0 x22_1)))) / 4294967296), (wrap64 (x22_1 + 1)), (by first | rfl | (simp; done) | (simp [*]; done)), (by first | rfl | (simp; done) | (simp [*]; done)), H', ⟨by have := HK1.out; omega⟩, ⟨by (with_reducible repeat (first | apply Kd.R_alloc | apply Kd.R_drewN | apply Kd.R_drew)); exact HO_5.out⟩, ⟨by repeat (first | (with_reducible first | exact HB.out | apply below_alloc | apply pw_below_drewN | apply below_drew1) | exact HB.out)⟩⟩
                  · rw [if_neg c16] at H
                    exact absurd H (by simp)
              · rw [if_neg c10] at H
                exact absurd H (by simp)
            · rw [if_neg c9] at H
              exact absurd H (by simp)
          · rw [if_neg c8] at H
            have c8b0 : decide (x22_1 < (l0.length : Int)) = false := decide_eq_false c8
            clear c8
            by_cases c20 : 0 ≤ (l0.length : Int)
            · rw [if_pos c20] at H
              have c20b0 : decide (0 ≤ (l0.length : Int)) = true := decide_eq_true c20
              have c20b1 : decide (0 ≤ l0.length) = true := decide_eq_true (by omega)
              clear c20
              by_cases c21 : (l0.length : Int) < (x5_1.length : Int)
              · rw [if_pos c21] at H
                have c21b0 : decide ((l0.length : Int) < (x5_1.length : Int)) = true := decide_eq_true c21
                have c21b1 : decide (l0.length < x5_1.length) = true := decide_eq_true (Int.ofNat_lt.mp c21)
                clear c21
                obtain ⟨y299, hy299⟩ : ∃ y_ : List Int, y_ = (x5_1.set ((l0.length : Int) : Int).toNat ((x6_1) % 4294967296)) := ⟨_, rfl⟩
                replace H : ((impl_magTrim.f k1 y299).bind fun t300 => (some t300)) = some r := by first | (rw [hy299]; with_reducible exact H) | (have H2_ := (Option.bind_some _ _).symm.trans H; rw [hy299]; with_reducible exact H2_) | (have H2_ := (Option.bind_some _ _).symm.trans H; with_reducible exact H2_) | with_reducible exact H | (rw [hy299]; exact H) | exact H
                have Ny299 := Aside0.mk hy299
                clear hy299
                replace H := Option.bind_eq_some_iff.mp H
                obtain ⟨t300, A230, H⟩ := H
                replace H : (some t300) = some r := H
                have A23 := Aside0.mk A230
                clear A230
                obtain rfl := Option.some.inj H
                have p22 : 0 ≤ ((l0.length : Int) : Int) := of_decide_eq_true (by first | (with_reducible assumption) | assumption)
                have q22 : ((l0.length : Int) : Int) < ((x5_1.length : Int) : Int) := of_decide_eq_true (by first | (with_reducible assumption) | assumption)
                obtain ⟨go22, co22, eo22, gb22, gl22, cl22, HG22⟩ := Kd.R_form HO_5.out (by omega)
                (first | cases eo22 | (injection eo22 with ea_ en_ ec_; (first | subst ea_ | (injection ea_ with ea_; subst ea_)); subst ec_; clear en_))
                have GB22 := Aside0.mk gb22
                have GG22 := Aside0.mk HG22
                clear gb22 gl22 HG22
                obtain ⟨hx22_0, hf22_0⟩ := Kd.R_celln 0 HO_5.out ((l0.length : Int) : Int) p22 q22
                simp only [Int.toNat_natCast] at hx22_0 hf22_0
                replace p22 := eq_true p22
                replace q22 := eq_true q22
                have HP24 := Kd.R_putg HO_5.out ((l0.length : Int) : Int) ((x6_1) % 4294967296)
                go_wp2_with (first | ((with_reducible refine gate_store (t := 94) (p := 55) rfl ?_); refine store_event (t := 94) (p := 55) (v := ?vo_w25) (w1 := (wr.setCell ⟨go22, ((l0.length : Int) : Int).toNat, none⟩ (.int .u32 ((x6_1) % 4294967296)))) ?hg ?ho ?hn ?hr ?_; (case ho => rfl); (case hg => rfl); (case hn => rfl); (case hr => first | (go_simp; done) | (go_simp; rfl)); intro w25 hw; have hg : wr.grownBy w25 (some go22) := (by rw [hw]; exact HP24.2); have hp_ : Kd.R (Kd.int .u32) 94 w25 w.heap.size (fun k_ => (w.heap.size ≤ k_)) (.slice (some ⟨go22, 0, none⟩) x5_1.length co22) y299 := (by rw [hw, Ny299.out]; exact HP24.1); clear HP24; have n0_ := Aside0.mk (hp_); have n1_ := Aside0.mk ((by rw [hw]; exact below_set (HB.out) GB22.out : Below w.heap.size w w25)); clear HO_5; clear HB; have HO_5 := n0_; have HB := n1_; clear n0_ n1_; clear hg hw hp_) | ((with_reducible refine gate_callee (f := 75) rfl ?_); refine goesL_ (some 57) rfl rfl Try.func75 (by kernel_rfl) rfl #[.slice (some ⟨go22, 0, none⟩) y299.length co22] rfl (by (try simp only [List.map_toArray, List.map_cons, List.map_nil]); first | done | (rw [show y299.length = x5_1.length from (Kd.R_reads' HO_5.out).1.symm] <;> rfl) | rfl | (simp only [List.length_drop, List.length_take]; rfl)) ?_; (with_reducible refine (impl_magTrim.calls k1 (fun k_ => some k_ = (.slice (some ⟨go22, 0, none⟩) x5_1.length co22 : Value).ownBlock) _ _ y299 t300 _ ?side1 A23.out).mono ?_); (case side1 => rw [show y299.length = x5_1.length from (Kd.R_reads' HO_5.out).1.symm]; exact Kd.R_V (Kd.R_tight rfl (HO_5.out))); rintro e w26 ⟨v301, rfl, ho0, hb⟩; refine ⟨_, rfl, ?_⟩; have n0_ := Aside0.mk (Kd.R_below (by (with_reducible repeat (first | apply Kd.R_alloc | apply Kd.R_drewN | apply Kd.R_drew)); exact HO_5.out) hb); have n1_ := Aside0.mk (Kd.V_lower (Kd.V_mono (ok' := fun k_ => (w.heap.size ≤ k_)) ho0 (fun k_ hk_ => Or.elim hk_ (fun hs_ => ((HO_5.out).1 k_ hs_.symm)) (fun hn_ => (Nat.le_trans (below_size (by repeat (first | (with_reducible first | exact HB.out | apply below_alloc | apply pw_below_drewN | apply below_drew1) | exact HB.out))) hn_)))) (below_size (by repeat (first | (with_reducible first | exact HB.out | apply below_alloc | apply pw_below_drewN | apply below_drew1) | exact HB.out)))); have n2_ := Aside0.mk (below_step (by repeat (first | (with_reducible first | exact HB.out | apply below_alloc | apply pw_below_drewN | apply below_drew1) | exact HB.out)) hb); clear HO_5; clear HB; have HO_5 := n0_; have HO302 := n1_; have HB := n2_; clear n0_ n1_ n2_; (try clear hb); (try clear hb2); (try clear hk); (try clear hi); (try clear ho0)))
                go_ret
                exact ⟨_, by first | rfl | (simp [errW_none, errW_some] <;> rfl) | (simp only [← hji3]; first | rfl | (simp [errW_none, errW_some] <;> rfl)) | (simp [*, errW_none, errW_some] <;> rfl), by (with_reducible repeat (first | apply Kd.V_alloc | apply Kd.V_drewN | apply Kd.V_drew)); exact HO302.out, by repeat (first | (with_reducible first | exact HB.out | apply below_alloc | apply pw_below_drewN | apply below_drew1) | exact HB.out)⟩
              · rw [if_neg c21] at H
                exact absurd H (by simp)
            · rw [if_neg c20] at H
              exact absurd H (by simp)
    · rw [if_neg c5] at H
      exact absurd H (by simp)
  · rw [if_neg c4] at H
    exact absurd H (by simp)
end Go.Proofs.Ythanlckjfghnkaa.PW
end
section
namespace Go.Proofs.Ythanlckjfghnkaa.PW
open Go.RowKit Go.Proofs.YthanlckjfghnkaaW.PrintWords Go.Proofs.YthanlckjfghnkaaW.PrintLast Go.Proofs.YthanlckjfghnkaaW.PrintMore
attribute [local go_sem] max2_int min2_int max_two min_two max_three min_three max_four min_four   -- for this text's walks alone
set_option linter.unusedVariables false
set_option linter.unusedSimpArgs false
mutual
def impl_magMul.l0 : Nat → List Int → List Int → List Int → Int → Int → Option (List Int)
  | 0, _, _, _, _, _ => none
  | k + 1, x1, x5, x17, x18, x19 => if x19 < x18 then (if 0 ≤ x19 then (if x19 < (x17.length : Int) then (impl_magMul.l1 k x1 x5 x19 (rd x17 x19) 0 x17 x18 x19 x1 (x1.length : Int) 0) else (none)) else (none)) else ((impl_magTrim.f k x5).bind fun t434 => (some t434))
def impl_magMul.l1 : Nat → List Int → List Int → Int → Int → Int → List Int → Int → Int → List Int → Int → Int → Option (List Int)
  | 0, _, _, _, _, _, _, _, _, _, _, _ => none
  | k + 1, x1, x5, x6, x7, x8, x17, x18, x19, x24, x25, x26 => if x26 < x25 then (if 0 ≤ x26 then (if x26 < (x24.length : Int) then (if 0 ≤ (wrap64 (x6 + x26)) then (if (wrap64 (x6 + x26)) < (x5.length : Int) then (impl_magMul.l1 k x1 (x5.set ((wrap64 (x6 + x26)) : Int).toNat ((IntKind.u64.wrap (x8 + (IntKind.u64.wrap ((IntKind.u64.wrap ((IntKind.u64.wrap (x7)) * (IntKind.u64.wrap (rd x24 x26)))) + (IntKind.u64.wrap (rd x5 (wrap64 (x6 + x26)))))))) % 4294967296)) x6 x7 ((IntKind.u64.wrap (x8 + (IntKind.u64.wrap ((IntKind.u64.wrap ((IntKind.u64.wrap (x7)) * (IntKind.u64.wrap (rd x24 x26)))) + (IntKind.u64.wrap (rd x5 (wrap64 (x6 + x26)))))))) / 4294967296) x17 x18 x19 x24 x25 (wrap64 (x26 + 1))) else (none)) else (none)) else (none)) else (none)) else (if 0 ≤ (wrap64 (x6 + (x1.length : Int))) then (if (wrap64 (x6 + (x1.length : Int))) < (x5.length : Int) then (impl_magMul.l0 k x1 (x5.set ((wrap64 (x6 + (x1.length : Int))) : Int).toNat ((x8) % 4294967296)) x17 x18 (wrap64 (x19 + 1))) else (none)) else (none))
end
def impl_magMul.f (k : Nat) (l0 : List Int) (l1 : List Int) : Option (List Int) := if 0 ≤ (wrap64 ((l0.length : Int) + (l1.length : Int))) then (if (wrap64 ((l0.length : Int) + (l1.length : Int)) : Int).toNat ≤ 70368744177664 then (impl_magMul.l0 k l1 (List.replicate (wrap64 ((l0.length : Int) + (l1.length : Int)) : Int).toNat 0) l0 (l0.length : Int) 0) else (none)) else (none)
theorem impl_magMul.mono_l : ∀ k, (∀ y0 y1 y2 y3 y4, LeO (impl_magMul.l0 k y0 y1 y2 y3 y4) (impl_magMul.l0 (k + 1) y0 y1 y2 y3 y4)) ∧ (∀ y0 y1 y2 y3 y4 y5 y6 y7 y8 y9 y10, LeO (impl_magMul.l1 k y0 y1 y2 y3 y4 y5 y6 y7 y8 y9 y10) (impl_magMul.l1 (k + 1) y0 y1 y2 y3 y4 y5 y6 y7 y8 y9 y10))
  | 0 => ⟨fun _ _ _ _ _ r h => by simp [impl_magMul.l0] at h, fun _ _ _ _ _ _ _ _ _ _ _ r h => by simp [impl_magMul.l1] at h⟩
  | k + 1 => by
    obtain ⟨ih0, ih1⟩ := impl_magMul.mono_l k
    refine ⟨?_, ?_⟩
    · intro y0 y1 y2 y3 y4
      unfold impl_magMul.l0
      repeat' first
      | (with_reducible exact ih0 _ _ _ _ _)
      | (with_reducible exact ih1 _ _ _ _ _ _ _ _ _ _ _)
      | (with_reducible exact impl_magTrim.mono _ _)
      | (with_reducible exact LeO.refl _)
      | (with_reducible exact LeO.none _)
      | (with_reducible refine LeO.ite ?_ ?_)
      | (with_reducible refine LeO.bind ?_ (fun _ => ?_))
      | exact ih0 _ _ _ _ _
      | exact ih1 _ _ _ _ _ _ _ _ _ _ _
      | exact impl_magTrim.mono _ _
      | exact LeO.none _
      | refine LeO.ite ?_ ?_
      | refine LeO.bind ?_ (fun _ => ?_)
    · intro y0 y1 y2 y3 y4 y5 y6 y7 y8 y9 y10
      unfold impl_magMul.l1
      repeat' first
      | (with_reducible exact ih0 _ _ _ _ _)
      | (with_reducible exact ih1 _ _ _ _ _ _ _ _ _ _ _)
      | (with_reducible exact impl_magTrim.mono _ _)
      | (with_reducible exact LeO.refl _)
      | (with_reducible exact LeO.none _)
      | (with_reducible refine LeO.ite ?_ ?_)
      | (with_reducible refine LeO.bind ?_ (fun _ => ?_))
      | exact ih0 _ _ _ _ _
      | exact ih1 _ _ _ _ _ _ _ _ _ _ _
      | exact impl_magTrim.mono _ _
      | exact LeO.none _
      | refine LeO.ite ?_ ?_
      | refine LeO.bind ?_ (fun _ => ?_)
theorem impl_magMul.mono : ∀ a0 a1 k, LeO (impl_magMul.f k a0 a1) (impl_magMul.f (k + 1) a0 a1) := by
  intro a0 a1 k
  obtain ⟨ih0, ih1⟩ := impl_magMul.mono_l k
  unfold impl_magMul.f
  repeat' first
      | (with_reducible exact ih0 _ _ _ _ _)
      | (with_reducible exact ih1 _ _ _ _ _ _ _ _ _ _ _)
      | (with_reducible exact impl_magTrim.mono _ _)
      | (with_reducible exact LeO.refl _)
      | (with_reducible exact LeO.none _)
      | (with_reducible refine LeO.ite ?_ ?_)
      | (with_reducible refine LeO.bind ?_ (fun _ => ?_))
      | exact ih0 _ _ _ _ _
      | exact ih1 _ _ _ _ _ _ _ _ _ _ _
      | exact impl_magTrim.mono _ _
      | exact LeO.none _
      | refine LeO.ite ?_ ?_
      | refine LeO.bind ?_ (fun _ => ?_)
set_option maxHeartbeats 8000000 in
set_option maxRecDepth 100000 in
theorem impl_magMul.calls (k : Nat) (A0 : Option Addr) (c0 : Nat) (l0 : List Int) (A1 : Option Addr) (c1 : Nat) (l1 : List Int) (r : List Int) (w : World) (hr0 : Kd.C (Kd.int .u32) w A0 l0.length l0) (hc0 : l0.length ≤ c0) (hr1 : Kd.C (Kd.int .u32) w A1 l1.length l1) (hc1 : l1.length ≤ c1) (h : impl_magMul.f k l0 l1 = some r) :
    Calls Try.prog 74 #[.slice A0 l0.length c0, .slice A1 l1.length c1] w fun e w' => ∃ v0_ : Value, e = .returned (v0_) ∧ Kd.V (Kd.int .u32) 94 w' w.heap.size (fun k_ => (w.heap.size ≤ k_)) v0_ r ∧ Below w.heap.size w w' := by
  have HR0 := Aside0.mk hr0
  have HC0 := Aside0.mk hc0
  clear hr0 hc0
  have HR1 := Aside0.mk hr1
  have HC1 := Aside0.mk hc1
  clear hr1 hc1
  have HB := Aside0.mk (Below.refl w.heap.size w)
  have H : (if 0 ≤ (wrap64 ((l0.length : Int) + (l1.length : Int))) then (if (wrap64 ((l0.length : Int) + (l1.length : Int)) : Int).toNat ≤ 70368744177664 then (impl_magMul.l0 k l1 (List.replicate (wrap64 ((l0.length : Int) + (l1.length : Int)) : Int).toNat 0) l0 (l0.length : Int) 0) else (none)) else (none)) = some r := h
  clear h
  obtain ⟨ji3, hji3⟩ : ∃ j_ : Int, (wrap64 ((l0.length : Int) + (l1.length : Int))) = j_ := ⟨_, rfl⟩
  replace H : (if 0 ≤ (ji3) then (if (ji3 : Int).toNat ≤ 70368744177664 then (impl_magMul.l0 k l1 (List.replicate (ji3 : Int).toNat 0) l0 (l0.length : Int) 0) else (none)) else (none)) = some r := by first | (rw [hji3] at H; exact H) | (simp only [hji3] at H ⊢; exact H)
  have hji3w : (IntKind.i64.wrap ((l0.length : Int) + (l1.length : Int))) = ji3 := (i64_w _).trans hji3
  by_cases c4 : 0 ≤ (ji3)
  · rw [if_pos c4] at H
    have c4b0 := eq_true c4
    have c4b1 : decide (0 ≤ (ji3)) = true := decide_eq_true c4
    clear c4
    by_cases c5 : (ji3 : Int).toNat ≤ 70368744177664
    · rw [if_pos c5] at H
      have c5b0 := eq_true c5
      have c5b1 : decide ((ji3 : Int).toNat ≤ 70368744177664) = true := decide_eq_true c5
      clear c5
      obtain ⟨y431, hy431⟩ : ∃ y_ : List Int, y_ = (List.replicate (ji3 : Int).toNat 0) := ⟨_, rfl⟩
      replace H : (impl_magMul.l0 k l1 y431 l0 (l0.length : Int) 0) = some r := by first | (rw [hy431]; with_reducible exact H) | (have H2_ := (Option.bind_some _ _).symm.trans H; rw [hy431]; with_reducible exact H2_) | (have H2_ := (Option.bind_some _ _).symm.trans H; with_reducible exact H2_) | with_reducible exact H | (rw [hy431]; exact H) | exact H
      have Ny431 := Aside0.mk hy431
      clear hy431
      have H' := Aside0.mk H
      clear H
      go_enter Try.func74, Try.ntmps74
      go_wp2_with (first | ((with_reducible refine gate_dst (N := 16) rfl ?_); refine Kd.R_make (Kd.int .u32) _ 94 rfl (N := 16) rfl 55 _ _ rfl ji3 rfl rfl Try.underlying55 (.int .u32 0) 4 info94 rfl (by decide) (by omega) 0 (ok := fun _ => True) (okp := fun _ => True) rfl (fun _ hk => hk) trivial (of_decide_eq_true (by first | (with_reducible assumption) | assumption)) (Nat.le_trans (Nat.mul_le_mul_right _ (of_decide_eq_true (by first | (with_reducible assumption) | assumption) : ji3.toNat ≤ 70368744177664)) (by omega)) (Below.refl _ _) (Nat.le_refl _) ?_; intro v432 w6 ho7 hb hg_ hnew_; clear hg_ hnew_; (first | rw [← Ny431.out] at ho7 | (simp only [Int.reduceToNat] at ho7; rw [← Ny431.out] at ho7)); have n0_ := Aside0.mk (Kd.R_lower (Kd.R_newM (M := fun k_ => (w.heap.size ≤ k_)) ho7 (below_size (by repeat (first | (with_reducible first | exact HB.out | apply below_alloc | apply pw_below_drewN | apply below_drew1) | exact HB.out))) (fun k_ h_ => h_)) (below_size (by repeat (first | (with_reducible first | exact HB.out | apply below_alloc | apply pw_below_drewN | apply below_drew1) | exact HB.out)))); have n1_ := Aside0.mk (below_step (by repeat (first | (with_reducible first | exact HB.out | apply below_alloc | apply pw_below_drewN | apply below_drew1) | exact HB.out)) hb); clear HB; have HO433 := n0_; have HB := n1_; clear n0_ n1_; clear hb ho7))
      go_loopg [19] k (fun kq v19 w' => ∃ (x5_1 : List Int) (x19_1 : Int), v19 = .int .i64 x19_1 ∧ Aside0 (impl_magMul.l0 kq l1 x5_1 l0 (l0.length : Int) x19_1 = some r) ∧ Aside0 (kq ≤ k) ∧ Aside0 (Kd.R (Kd.int .u32) 94 w' w.heap.size (fun k_ => (w.heap.size ≤ k_)) v432 x5_1) ∧ Aside0 (Below w.heap.size w w'))
      case atStart => exact ⟨(y431), (0), (by first | rfl | (simp; done) | (simp [*]; done)), H', ⟨Nat.le_refl _⟩, ⟨by (with_reducible repeat (first | apply Kd.R_alloc | apply Kd.R_drewN | apply Kd.R_drew)); exact Kd.R_mono HO433.out (fun _ hk => hk.1)⟩, ⟨by repeat (first | (with_reducible first | exact HB.out | apply below_alloc | apply pw_below_drewN | apply below_drew1) | exact HB.out)⟩⟩
      case round =>
        clear H'
        try clear c1
        try clear p2
        try clear c4
        try clear c4b0
        try clear c4b1
        try clear c5
        try clear c5b0
        try clear c5b1
        try clear p6
        try clear c7
        obtain ⟨x5_1, x19_1, rfl, HA, HK1, HO_5, HB⟩ := hrel
        cases gk with
        | zero => exact absurd HA.out (by simp [impl_magMul.l0])
        | succ k1 =>
          have H := HA.out
          clear HA
          simp only [impl_magMul.l0] at H
          by_cases c8 : x19_1 < (l0.length : Int)
          · rw [if_pos c8] at H
            have c8b0 : decide (x19_1 < (l0.length : Int)) = true := decide_eq_true c8
            clear c8
            by_cases c9 : 0 ≤ x19_1
            · rw [if_pos c9] at H
              have c9b0 : decide (0 ≤ x19_1) = true := decide_eq_true c9
              clear c9
              by_cases c10 : x19_1 < (l0.length : Int)
              · rw [if_pos c10] at H
                have c10b0 : decide (x19_1 < (l0.length : Int)) = true := decide_eq_true c10
                clear c10
                have H' := Aside0.mk H
                clear H
                have p437 : 0 ≤ (x19_1 : Int) := of_decide_eq_true (by first | (with_reducible assumption) | assumption)
                have q437 : x19_1 < (l0.length : Int) := of_decide_eq_true (by first | (with_reducible assumption) | assumption)
                obtain ⟨ad437, e437, hx437_0⟩ := Kd.at_int HR0.out x19_1 p437 q437
                cases e437
                replace hx437_0 := (HB.out.cell (World.block_lt_of_cell? w _ hx437_0)).trans hx437_0
                replace p437 := eq_true p437
                replace q437 := eq_true q437
                go_wp2
                go_loopg [8, 26] k1 (fun kq v8 v26 w' => ∃ (x5_2 : List Int) (x8_2 : Int) (x26_2 : Int), v8 = .int .u64 x8_2 ∧ v26 = .int .i64 x26_2 ∧ Aside0 (impl_magMul.l1 kq l1 x5_2 x19_1 (rd l0 x19_1) x8_2 l0 (l0.length : Int) x19_1 l1 (l1.length : Int) x26_2 = some r) ∧ Aside0 (kq ≤ k1) ∧ Aside0 (Kd.R (Kd.int .u32) 94 w' w.heap.size (fun k_ => (w.heap.size ≤ k_)) v432 x5_2) ∧ Aside0 (Below w.heap.size w w'))
                case atStart => exact ⟨(x5_1), (0), (0), (by first | rfl | (simp; done) | (simp [*]; done)), (by first | rfl | (simp; done) | (simp [*]; done)), H', ⟨Nat.le_refl _⟩, ⟨by (with_reducible repeat (first | apply Kd.R_alloc | apply Kd.R_drewN | apply Kd.R_drew)); exact HO_5.out⟩, ⟨by repeat (first | (with_reducible first | exact HB.out | apply below_alloc | apply pw_below_drewN | apply below_drew1) | exact HB.out)⟩⟩
                case round =>
                  clear H'
                  try clear c1
                  try clear p2
                  try clear c4
                  try clear c4b0
                  try clear c4b1
                  try clear p4
                  try clear q4
                  try clear hx4
                  try clear c5
                  try clear c5b0
                  try clear c5b1
                  try clear p6
                  try clear c7
                  try clear c8
                  try clear c8b0
                  try clear c9
                  try clear c9b0
                  try clear c10
                  try clear c10b0
                  try clear hx437_0
                  try clear p2
                  try clear p437
                  try clear p6
                  try clear q437
                  obtain ⟨x5_2, x8_2, x26_2, rfl, rfl, HA, HK2, HO_5, HB⟩ := hrel
                  cases gk with
                  | zero => exact absurd HA.out (by simp [impl_magMul.l1])
                  | succ k2 =>
                    have H := HA.out
                    clear HA
                    simp only [impl_magMul.l1] at H
                    by_cases c11 : x26_2 < (l1.length : Int)
                    · rw [if_pos c11] at H
                      have c11b0 : decide (x26_2 < (l1.length : Int)) = true := decide_eq_true c11
                      clear c11
                      by_cases c12 : 0 ≤ x26_2
                      · rw [if_pos c12] at H
                        have c12b0 : decide (0 ≤ x26_2) = true := decide_eq_true c12
                        clear c12
                        by_cases c13 : x26_2 < (l1.length : Int)
                        · rw [if_pos c13] at H
                          have c13b0 : decide (x26_2 < (l1.length : Int)) = true := decide_eq_true c13
                          clear c13
                          obtain ⟨ji14, hji14⟩ : ∃ j_ : Int, (wrap64 (x19_1 + x26_2)) = j_ := ⟨_, rfl⟩
                          replace H : (if 0 ≤ (ji14) then (if (ji14) < (x5_2.length : Int) then (impl_magMul.l1 k2 l1 (x5_2.set ((ji14) : Int).toNat ((IntKind.u64.wrap (x8_2 + (IntKind.u64.wrap ((IntKind.u64.wrap ((IntKind.u64.wrap ((rd l0 x19_1))) * (IntKind.u64.wrap (rd l1 x26_2)))) + (IntKind.u64.wrap (rd x5_2 (ji14))))))) % 4294967296)) x19_1 (rd l0 x19_1) ((IntKind.u64.wrap (x8_2 + (IntKind.u64.wrap ((IntKind.u64.wrap ((IntKind.u64.wrap ((rd l0 x19_1))) * (IntKind.u64.wrap (rd l1 x26_2)))) + (IntKind.u64.wrap (rd x5_2 (ji14))))))) / 4294967296) l0 (l0.length : Int) x19_1 l1 (l1.length : Int) (wrap64 (x26_2 + 1))) else (none)) else (none)) = some r := by first | (rw [hji14] at H; exact H) | (simp only [hji14] at H ⊢; exact H)
                          have hji14w : (IntKind.i64.wrap (x19_1 + x26_2)) = ji14 := (i64_w _).trans hji14
                          by_cases c15 : 0 ≤ (ji14)
                          · rw [if_pos c15] at H
                            have c15b0 : decide (0 ≤ (ji14)) = true := decide_eq_true c15
                            clear c15
                            by_cases c16 : (ji14) < (x5_2.length : Int)
                            · rw [if_pos c16] at H
                              have c16b0 : decide ((ji14) < (x5_2.length : Int)) = true := decide_eq_true c16
                              clear c16
                              obtain ⟨y440, hy440⟩ : ∃ y_ : List Int, y_ = (x5_2.set ((ji14) : Int).toNat ((IntKind.u64.wrap (x8_2 + (IntKind.u64.wrap ((IntKind.u64.wrap ((IntKind.u64.wrap ((rd l0 x19_1))) * (IntKind.u64.wrap (rd l1 x26_2)))) + (IntKind.u64.wrap (rd x5_2 (ji14))))))) % 4294967296)) := ⟨_, rfl⟩
                              replace H : (impl_magMul.l1 k2 l1 y440 x19_1 (rd l0 x19_1) ((IntKind.u64.wrap (x8_2 + (IntKind.u64.wrap ((IntKind.u64.wrap ((IntKind.u64.wrap ((rd l0 x19_1))) * (IntKind.u64.wrap (rd l1 x26_2)))) + (IntKind.u64.wrap (rd x5_2 (ji14))))))) / 4294967296) l0 (l0.length : Int) x19_1 l1 (l1.length : Int) (wrap64 (x26_2 + 1))) = some r := by first | (rw [hy440]; with_reducible exact H) | (have H2_ := (Option.bind_some _ _).symm.trans H; rw [hy440]; with_reducible exact H2_) | (have H2_ := (Option.bind_some _ _).symm.trans H; with_reducible exact H2_) | with_reducible exact H | (rw [hy440]; exact H) | exact H
                              have Ny440 := Aside0.mk hy440
                              clear hy440
                              have H' := Aside0.mk H
                              clear H
                              have p438 : 0 ≤ (x26_2 : Int) := of_decide_eq_true (by first | (with_reducible assumption) | assumption)
                              have q438 : x26_2 < (l1.length : Int) := of_decide_eq_true (by first | (with_reducible assumption) | assumption)
                              obtain ⟨ad438, e438, hx438_0⟩ := Kd.at_int HR1.out x26_2 p438 q438
                              cases e438
                              replace hx438_0 := (HB.out.cell (World.block_lt_of_cell? w _ hx438_0)).trans hx438_0
                              replace p438 := eq_true p438
                              replace q438 := eq_true q438
                              obtain ⟨Ao18, co18, eo18⟩ := Kd.R_slice HO_5.out
                              subst eo18
                              have p439 : 0 ≤ ((ji14) : Int) := of_decide_eq_true (by first | (with_reducible assumption) | assumption)
                              have q439 : (ji14) < (x5_2.length : Int) := of_decide_eq_true (by first | (with_reducible assumption) | assumption)
                              obtain ⟨ad439, e439, hx439_0⟩ := Kd.at_int (Kd.R_reads' HO_5.out).2.2 (ji14) p439 q439
                              cases e439
                              replace p439 := eq_true p439
                              replace q439 := eq_true q439
                              have p17 : 0 ≤ ((ji14) : Int) := of_decide_eq_true (by first | (with_reducible assumption) | assumption)
                              have q17 : ((ji14) : Int) < ((x5_2.length : Int) : Int) := of_decide_eq_true (by first | (with_reducible assumption) | assumption)
                              obtain ⟨go17, co17, eo17, gb17, gl17, cl17, HG17⟩ := Kd.R_form HO_5.out (by omega)
                              (first | cases eo17 | (injection eo17 with ea_ en_ ec_; (first | subst ea_ | (injection ea_ with ea_; subst ea_)); subst ec_; clear en_))
                              have GB17 := Aside0.mk gb17
                              have GG17 := Aside0.mk HG17
                              clear gb17 gl17 HG17
                              (first | simp only [add_plain] at hx439_0 | skip)
                              obtain ⟨hx17_0, hf17_0⟩ := Kd.R_celln 0 HO_5.out ((ji14) : Int) p17 q17
                              replace p17 := eq_true p17
                              replace q17 := eq_true q17
                              have HP19 := Kd.R_putg HO_5.out ((ji14) : Int) ((IntKind.u64.wrap (x8_2 + (IntKind.u64.wrap ((IntKind.u64.wrap ((IntKind.u64.wrap ((rd l0 x19_1))) * (IntKind.u64.wrap (rd l1 x26_2)))) + (IntKind.u64.wrap (rd x5_2 (ji14))))))) % 4294967296)
                              go_wp2_with (first | ((with_reducible refine gate_store (t := 94) (p := 52) rfl ?_); refine store_event (t := 94) (p := 52) (v := ?vo_w20) (w1 := (wr.setCell ⟨go17, ((ji14) : Int).toNat, none⟩ (.int .u32 ((IntKind.u64.wrap (x8_2 + (IntKind.u64.wrap ((IntKind.u64.wrap ((IntKind.u64.wrap ((rd l0 x19_1))) * (IntKind.u64.wrap (rd l1 x26_2)))) + (IntKind.u64.wrap (rd x5_2 (ji14))))))) % 4294967296)))) ?hg ?ho ?hn ?hr ?_; (case ho => rfl); (case hg => rfl); (case hn => rfl); (case hr => first | (go_simp; done) | (go_simp; rfl)); intro w20 hw; have hg : wr.grownBy w20 (some go17) := (by rw [hw]; exact HP19.2); have hp_ : Kd.R (Kd.int .u32) 94 w20 w.heap.size (fun k_ => (w.heap.size ≤ k_)) (.slice (some ⟨go17, 0, none⟩) x5_2.length co18) y440 := (by rw [hw, Ny440.out]; exact HP19.1); clear HP19; have n0_ := Aside0.mk (hp_); have n1_ := Aside0.mk ((by rw [hw]; exact below_set (HB.out) GB17.out : Below w.heap.size w w20)); clear HO_5; clear HB; have HO_5 := n0_; have HB := n1_; clear n0_ n1_; clear hg hw hp_))
                              go_roundg k2
                              case measure => have := HK1.out; have := HK2.out; omega
                              case rel => exact ⟨(y440), ((IntKind.u64.wrap (x8_2 + (IntKind.u64.wrap ((IntKind.u64.wrap ((IntKind.u64.wrap ((rd l0 x19_1))) * (IntKind.u64.wrap (rd l1 x26_2)))) + (IntKind.u64.wrap (rd x5_2 (ji14))))))) / 4294967296), (wrap64 (x26_2 + 1)), (by first | rfl | (simp; done) | (simp only [← hji14] <;> (first | rfl | simp)) | (simp [*]; done)), (by first | rfl | (simp; done) | (simp [*]; done)), H', ⟨by have := HK1.out; have := HK2.out; omega⟩, ⟨by (with_reducible repeat (first | apply Kd.R_alloc | apply Kd.R_drewN | apply Kd.R_drew)); exact HO_5.out⟩, ⟨by repeat (first | (with_reducible first | exact HB.out | apply below_alloc | apply pw_below_drewN | apply below_drew1) | exact HB.out)⟩⟩
                            · rw [if_neg c16] at H
                              exact absurd H (by simp)
                          · rw [if_neg c15] at H
                            exact absurd H (by simp)
                        · rw [if_neg c13] at H
                          exact absurd H (by simp)
                      · rw [if_neg c12] at H
                        exact absurd H (by simp)
                    · rw [if_neg c11] at H
                      have c11b0 : decide (x26_2 < (l1.length : Int)) = false := decide_eq_false c11
                      clear c11
                      obtain ⟨ji21, hji21⟩ : ∃ j_ : Int, (wrap64 (x19_1 + (l1.length : Int))) = j_ := ⟨_, rfl⟩
                      replace H : (if 0 ≤ (ji21) then (if (ji21) < (x5_2.length : Int) then (impl_magMul.l0 k2 l1 (x5_2.set ((ji21) : Int).toNat ((x8_2) % 4294967296)) l0 (l0.length : Int) (wrap64 (x19_1 + 1))) else (none)) else (none)) = some r := by first | (rw [hji21] at H; exact H) | (simp only [hji21] at H ⊢; exact H)
                      have hji21w : (IntKind.i64.wrap (x19_1 + (l1.length : Int))) = ji21 := (i64_w _).trans hji21
                      by_cases c22 : 0 ≤ (ji21)
                      · rw [if_pos c22] at H
                        have c22b0 : decide (0 ≤ (ji21)) = true := decide_eq_true c22
                        clear c22
                        by_cases c23 : (ji21) < (x5_2.length : Int)
                        · rw [if_pos c23] at H
                          have c23b0 : decide ((ji21) < (x5_2.length : Int)) = true := decide_eq_true c23
                          clear c23
                          obtain ⟨y441, hy441⟩ : ∃ y_ : List Int, y_ = (x5_2.set ((ji21) : Int).toNat ((x8_2) % 4294967296)) := ⟨_, rfl⟩
                          replace H : (impl_magMul.l0 k2 l1 y441 l0 (l0.length : Int) (wrap64 (x19_1 + 1))) = some r := by first | (rw [hy441]; with_reducible exact H) | (have H2_ := (Option.bind_some _ _).symm.trans H; rw [hy441]; with_reducible exact H2_) | (have H2_ := (Option.bind_some _ _).symm.trans H; with_reducible exact H2_) | with_reducible exact H | (rw [hy441]; exact H) | exact H
                          have Ny441 := Aside0.mk hy441
                          clear hy441
                          have H' := Aside0.mk H
                          clear H
                          have p24 : 0 ≤ ((ji21) : Int) := of_decide_eq_true (by first | (with_reducible assumption) | assumption)
                          have q24 : ((ji21) : Int) < ((x5_2.length : Int) : Int) := of_decide_eq_true (by first | (with_reducible assumption) | assumption)
                          obtain ⟨go24, co24, eo24, gb24, gl24, cl24, HG24⟩ := Kd.R_form HO_5.out (by omega)
                          (first | cases eo24 | (injection eo24 with ea_ en_ ec_; (first | subst ea_ | (injection ea_ with ea_; subst ea_)); subst ec_; clear en_))
                          have GB24 := Aside0.mk gb24
                          have GG24 := Aside0.mk HG24
                          clear gb24 gl24 HG24
                          obtain ⟨hx24_0, hf24_0⟩ := Kd.R_celln 0 HO_5.out ((ji21) : Int) p24 q24
                          replace p24 := eq_true p24
                          replace q24 := eq_true q24
                          have HP25 := Kd.R_putg HO_5.out ((ji21) : Int) ((x8_2) % 4294967296)
                          go_wp2_with (first | ((with_reducible refine gate_store (t := 94) (p := 63) rfl ?_); refine store_event (t := 94) (p := 63) (v := ?vo_w26) (w1 := (wr.setCell ⟨go24, ((ji21) : Int).toNat, none⟩ (.int .u32 ((x8_2) % 4294967296)))) ?hg ?ho ?hn ?hr ?_; (case ho => rfl); (case hg => rfl); (case hn => rfl); (case hr => first | (go_simp; done) | (go_simp; rfl)); intro w26 hw; have hg : wr.grownBy w26 (some go24) := (by rw [hw]; exact HP25.2); have hp_ : Kd.R (Kd.int .u32) 94 w26 w.heap.size (fun k_ => (w.heap.size ≤ k_)) (.slice (some ⟨go24, 0, none⟩) x5_2.length co24) y441 := (by rw [hw, Ny441.out]; exact HP25.1); clear HP25; have n0_ := Aside0.mk (hp_); have n1_ := Aside0.mk ((by rw [hw]; exact below_set (HB.out) GB24.out : Below w.heap.size w w26)); clear HO_5; clear HB; have HO_5 := n0_; have HB := n1_; clear n0_ n1_; clear hg hw hp_))
                          go_roundg k2
                          case measure => have := HK1.out; have := HK2.out; omega
                          case rel => exact ⟨(y441), (wrap64 (x19_1 + 1)), (by first | rfl | (simp; done) | (simp [*]; done)), H', ⟨by have := HK1.out; have := HK2.out; omega⟩, ⟨by (with_reducible repeat (first | apply Kd.R_alloc | apply Kd.R_drewN | apply Kd.R_drew)); exact HO_5.out⟩, ⟨by repeat (first | (with_reducible first | exact HB.out | apply below_alloc | apply pw_below_drewN | apply below_drew1) | exact HB.out)⟩⟩
                        · rw [if_neg c23] at H
                          exact absurd H (by simp)
                      · rw [if_neg c22] at H
                        exact absurd H (by simp)
              · rw [if_neg c10] at H
                exact absurd H (by simp)
            · rw [if_neg c9] at H
              exact absurd H (by simp)
          · rw [if_neg c8] at H
            have c8b0 : decide (x19_1 < (l0.length : Int)) = false := decide_eq_false c8
            clear c8
            replace H := Option.bind_eq_some_iff.mp H
            obtain ⟨t434, A270, H⟩ := H
            replace H : (some t434) = some r := H
            have A27 := Aside0.mk A270
            clear A270
            obtain rfl := Option.some.inj H
            obtain ⟨Ao28, co28, eo28⟩ := Kd.R_slice HO_5.out
            subst eo28
            go_wp2_with (first | ((with_reducible refine gate_callee (f := 75) rfl ?_); refine goesL_ (some 66) rfl rfl Try.func75 (by kernel_rfl) rfl #[.slice Ao28 x5_1.length co28] rfl (by (try simp only [List.map_toArray, List.map_cons, List.map_nil]); first | done | rfl | (simp only [List.length_drop, List.length_take]; rfl)) ?_; (with_reducible refine (impl_magTrim.calls k1 (fun k_ => some k_ = (.slice Ao28 x5_1.length co28 : Value).ownBlock) _ _ x5_1 t434 _ ?side1 A27.out).mono ?_); (case side1 => exact Kd.R_V (Kd.R_tight rfl (HO_5.out))); rintro e w29 ⟨v435, rfl, ho0, hb⟩; refine ⟨_, rfl, ?_⟩; have n0_ := Aside0.mk (Kd.R_below (by (with_reducible repeat (first | apply Kd.R_alloc | apply Kd.R_drewN | apply Kd.R_drew)); exact HO_5.out) hb); have n1_ := Aside0.mk (Kd.V_lower (Kd.V_mono (ok' := fun k_ => (w.heap.size ≤ k_)) ho0 (fun k_ hk_ => Or.elim hk_ (fun hs_ => ((HO_5.out).1 k_ hs_.symm)) (fun hn_ => (Nat.le_trans (below_size (by repeat (first | (with_reducible first | exact HB.out | apply below_alloc | apply pw_below_drewN | apply below_drew1) | exact HB.out))) hn_)))) (below_size (by repeat (first | (with_reducible first | exact HB.out | apply below_alloc | apply pw_below_drewN | apply below_drew1) | exact HB.out)))); have n2_ := Aside0.mk (below_step (by repeat (first | (with_reducible first | exact HB.out | apply below_alloc | apply pw_below_drewN | apply below_drew1) | exact HB.out)) hb); clear HO_5; clear HB; have HO_5 := n0_; have HO436 := n1_; have HB := n2_; clear n0_ n1_ n2_; (try clear hb); (try clear hb2); (try clear hk); (try clear hi); (try clear ho0)))
            go_ret
            exact ⟨_, by first | rfl | (simp [errW_none, errW_some] <;> rfl) | (simp only [← hji3]; first | rfl | (simp [errW_none, errW_some] <;> rfl)) | (simp [*, errW_none, errW_some] <;> rfl), by (with_reducible repeat (first | apply Kd.V_alloc | apply Kd.V_drewN | apply Kd.V_drew)); exact HO436.out, by repeat (first | (with_reducible first | exact HB.out | apply below_alloc | apply pw_below_drewN | apply below_drew1) | exact HB.out)⟩
    · rw [if_neg c5] at H
      exact absurd H (by simp)
  · rw [if_neg c4] at H
    exact absurd H (by simp)
end Go.Proofs.Ythanlckjfghnkaa.PW
end
section
namespace Go.Proofs.Ythanlckjfghnkaa.PW
open Go.RowKit Go.Proofs.YthanlckjfghnkaaW.PrintWords Go.Proofs.YthanlckjfghnkaaW.PrintLast Go.Proofs.YthanlckjfghnkaaW.PrintMore
attribute [local go_sem] max2_int min2_int max_two min_two max_three min_three max_four min_four   -- for this text's walks alone
set_option linter.unusedVariables false
set_option linter.unusedSimpArgs false
def impl_magLeft.l0 : Nat → Int → List Int → List Int → Int → Int → Option (List Int)
  | 0, _, _, _, _, _ => none
  | k + 1, x1, x5, x20, x21, x22 => if x22 < x21 then (if 0 ≤ x22 then (if x22 < (x20.length : Int) then (if 0 ≤ (Int.tmod x1 32) then (if 0 ≤ (wrap64 ((wrap64 (IntKind.u64.wrap (Int.tdiv x1 32))) + x22)) then (if (wrap64 ((wrap64 (IntKind.u64.wrap (Int.tdiv x1 32))) + x22)) < (x5.length : Int) then (if 0 ≤ (wrap64 ((wrap64 ((wrap64 (IntKind.u64.wrap (Int.tdiv x1 32))) + x22)) + 1)) then (if (wrap64 ((wrap64 ((wrap64 (IntKind.u64.wrap (Int.tdiv x1 32))) + x22)) + 1)) < (x5.length : Int) then (impl_magLeft.l0 k x1 ((x5.set ((wrap64 ((wrap64 (IntKind.u64.wrap (Int.tdiv x1 32))) + x22)) : Int).toNat (Go.bits .or .u32 (rd x5 (wrap64 ((wrap64 (IntKind.u64.wrap (Int.tdiv x1 32))) + x22))) ((shl .u64 (IntKind.u64.wrap (rd x20 x22)) (Int.tmod x1 32)) % 4294967296))).set ((wrap64 ((wrap64 ((wrap64 (IntKind.u64.wrap (Int.tdiv x1 32))) + x22)) + 1)) : Int).toNat (((shl .u64 (IntKind.u64.wrap (rd x20 x22)) (Int.tmod x1 32)) / 4294967296) % 4294967296)) x20 x21 (wrap64 (x22 + 1))) else (none)) else (none)) else (none)) else (none)) else (none)) else (none)) else (none)) else ((impl_magTrim.f k x5).bind fun t338 => (some t338))
def impl_magLeft.f (k : Nat) (l0 : List Int) (a1 : Int) : Option (List Int) := if (l0.length : Int) = 0 then (some ([] : List Int)) else (if 0 ≤ (wrap64 ((wrap64 ((wrap64 (IntKind.u64.wrap (Int.tdiv a1 32))) + (l0.length : Int))) + 1)) then (if (wrap64 ((wrap64 ((wrap64 (IntKind.u64.wrap (Int.tdiv a1 32))) + (l0.length : Int))) + 1) : Int).toNat ≤ 70368744177664 then (impl_magLeft.l0 k a1 (List.replicate (wrap64 ((wrap64 ((wrap64 (IntKind.u64.wrap (Int.tdiv a1 32))) + (l0.length : Int))) + 1) : Int).toNat 0) l0 (l0.length : Int) 0) else (none)) else (none))
theorem impl_magLeft.mono_l : ∀ k, (∀ y0 y1 y2 y3 y4, LeO (impl_magLeft.l0 k y0 y1 y2 y3 y4) (impl_magLeft.l0 (k + 1) y0 y1 y2 y3 y4))
  | 0 => fun _ _ _ _ _ r h => by simp [impl_magLeft.l0] at h
  | k + 1 => by
    have ih0 := impl_magLeft.mono_l k
    · intro y0 y1 y2 y3 y4
      unfold impl_magLeft.l0
      repeat' first
      | (with_reducible exact ih0 _ _ _ _ _)
      | (with_reducible exact impl_magTrim.mono _ _)
      | (with_reducible exact LeO.refl _)
      | (with_reducible exact LeO.none _)
      | (with_reducible refine LeO.ite ?_ ?_)
      | (with_reducible refine LeO.bind ?_ (fun _ => ?_))
      | exact ih0 _ _ _ _ _
      | exact impl_magTrim.mono _ _
      | exact LeO.none _
      | refine LeO.ite ?_ ?_
      | refine LeO.bind ?_ (fun _ => ?_)
theorem impl_magLeft.mono : ∀ a0 a1 k, LeO (impl_magLeft.f k a0 a1) (impl_magLeft.f (k + 1) a0 a1) := by
  intro a0 a1 k
  have ih0 := impl_magLeft.mono_l k
  unfold impl_magLeft.f
  repeat' first
      | (with_reducible exact ih0 _ _ _ _ _)
      | (with_reducible exact impl_magTrim.mono _ _)
      | (with_reducible exact LeO.refl _)
      | (with_reducible exact LeO.none _)
      | (with_reducible refine LeO.ite ?_ ?_)
      | (with_reducible refine LeO.bind ?_ (fun _ => ?_))
      | exact ih0 _ _ _ _ _
      | exact impl_magTrim.mono _ _
      | exact LeO.none _
      | refine LeO.ite ?_ ?_
      | refine LeO.bind ?_ (fun _ => ?_)
end Go.Proofs.Ythanlckjfghnkaa.PW
end
section
namespace Go.Proofs.Ythanlckjfghnkaa.PW
open Go.RowKit Go.Proofs.YthanlckjfghnkaaW.PrintWords Go.Proofs.YthanlckjfghnkaaW.PrintLast Go.Proofs.YthanlckjfghnkaaW.PrintMore
attribute [local go_sem] max2_int min2_int max_two min_two max_three min_three max_four min_four   -- for this text's walks alone
set_option linter.unusedVariables false
set_option linter.unusedSimpArgs false
def impl_magRight.l0 : Nat → List Int → Int → List Int → List Int → Int → Int → Option (List Int)
  | 0, _, _, _, _, _, _ => none
  | k + 1, x0, x1, x5, x22, x23, x24 => if x24 < x23 then (if 0 ≤ x24 then (if x24 < (x22.length : Int) then (if (wrap64 (x24 + 1)) < (x0.length : Int) then (if 0 ≤ (wrap64 (x24 + 1)) then (if 0 ≤ (Int.tmod x1 32) then (if x24 < (x5.length : Int) then (impl_magRight.l0 k x0 x1 (x5.set (x24 : Int).toNat ((shr .u64 (Go.bits .or .u64 (IntKind.u64.wrap (rd x22 x24)) (IntKind.u64.wrap ((IntKind.u64.wrap (rd x0 (wrap64 (x24 + 1)))) * 4294967296))) (Int.tmod x1 32)) % 4294967296)) x22 x23 (wrap64 (x24 + 1))) else (none)) else (none)) else (none)) else (if 0 ≤ (Int.tmod x1 32) then (if x24 < (x5.length : Int) then (impl_magRight.l0 k x0 x1 (x5.set (x24 : Int).toNat ((shr .u64 (IntKind.u64.wrap (rd x22 x24)) (Int.tmod x1 32)) % 4294967296)) x22 x23 (wrap64 (x24 + 1))) else (none)) else (none))) else (none)) else (none)) else ((impl_magTrim.f k x5).bind fun t311 => (some t311))
def impl_magRight.f (k : Nat) (l0 : List Int) (a1 : Int) : Option (List Int) := if (IntKind.u64.wrap ((l0.length : Int))) ≤ (IntKind.u64.wrap (Int.tdiv a1 32)) then (some ([] : List Int)) else (if 0 ≤ (IntKind.u64.wrap (Int.tdiv a1 32)) then (if (IntKind.u64.wrap (Int.tdiv a1 32)) ≤ (l0.length : Int) then (if 0 ≤ ((l0.drop ((IntKind.u64.wrap (Int.tdiv a1 32)) : Int).toNat).length : Int) then (if (((l0.drop ((IntKind.u64.wrap (Int.tdiv a1 32)) : Int).toNat).length : Int) : Int).toNat ≤ 70368744177664 then (impl_magRight.l0 k (l0.drop ((IntKind.u64.wrap (Int.tdiv a1 32)) : Int).toNat) a1 (List.replicate (((l0.drop ((IntKind.u64.wrap (Int.tdiv a1 32)) : Int).toNat).length : Int) : Int).toNat 0) (l0.drop ((IntKind.u64.wrap (Int.tdiv a1 32)) : Int).toNat) ((l0.drop ((IntKind.u64.wrap (Int.tdiv a1 32)) : Int).toNat).length : Int) 0) else (none)) else (none)) else (none)) else (none))
theorem impl_magRight.mono_l : ∀ k, (∀ y0 y1 y2 y3 y4 y5, LeO (impl_magRight.l0 k y0 y1 y2 y3 y4 y5) (impl_magRight.l0 (k + 1) y0 y1 y2 y3 y4 y5))
  | 0 => fun _ _ _ _ _ _ r h => by simp [impl_magRight.l0] at h
  | k + 1 => by
    have ih0 := impl_magRight.mono_l k
    · intro y0 y1 y2 y3 y4 y5
      unfold impl_magRight.l0
      repeat' first
      | (with_reducible exact ih0 _ _ _ _ _ _)
      | (with_reducible exact impl_magTrim.mono _ _)
      | (with_reducible exact LeO.refl _)
      | (with_reducible exact LeO.none _)
      | (with_reducible refine LeO.ite ?_ ?_)
      | (with_reducible refine LeO.bind ?_ (fun _ => ?_))
      | exact ih0 _ _ _ _ _ _
      | exact impl_magTrim.mono _ _
      | exact LeO.none _
      | refine LeO.ite ?_ ?_
      | refine LeO.bind ?_ (fun _ => ?_)
theorem impl_magRight.mono : ∀ a0 a1 k, LeO (impl_magRight.f k a0 a1) (impl_magRight.f (k + 1) a0 a1) := by
  intro a0 a1 k
  have ih0 := impl_magRight.mono_l k
  unfold impl_magRight.f
  repeat' first
      | (with_reducible exact ih0 _ _ _ _ _ _)
      | (with_reducible exact impl_magTrim.mono _ _)
      | (with_reducible exact LeO.refl _)
      | (with_reducible exact LeO.none _)
      | (with_reducible refine LeO.ite ?_ ?_)
      | (with_reducible refine LeO.bind ?_ (fun _ => ?_))
      | exact ih0 _ _ _ _ _ _
      | exact impl_magTrim.mono _ _
      | exact LeO.none _
      | refine LeO.ite ?_ ?_
      | refine LeO.bind ?_ (fun _ => ?_)
set_option maxHeartbeats 8000000 in
set_option maxRecDepth 100000 in
theorem impl_magRight.calls (k : Nat) (A0 : Option Addr) (c0 : Nat) (l0 : List Int) (a1 : Int) (r : List Int) (w : World) (hr0 : Kd.C (Kd.int .u32) w A0 l0.length l0) (hc0 : l0.length ≤ c0) (h : impl_magRight.f k l0 a1 = some r) :
    Calls Try.prog 91 #[.slice A0 l0.length c0, .int .u64 a1] w fun e w' => ∃ v0_ : Value, e = .returned (v0_) ∧ Kd.V (Kd.int .u32) 94 w' w.heap.size (fun k_ => (w.heap.size ≤ k_)) v0_ r ∧ Below w.heap.size w w' := by
  have HR0 := Aside0.mk hr0
  have HC0 := Aside0.mk hc0
  clear hr0 hc0
  have HB := Aside0.mk (Below.refl w.heap.size w)
  have H : (if (IntKind.u64.wrap ((l0.length : Int))) ≤ (IntKind.u64.wrap (Int.tdiv a1 32)) then (some ([] : List Int)) else (if 0 ≤ (IntKind.u64.wrap (Int.tdiv a1 32)) then (if (IntKind.u64.wrap (Int.tdiv a1 32)) ≤ (l0.length : Int) then (if 0 ≤ ((l0.drop ((IntKind.u64.wrap (Int.tdiv a1 32)) : Int).toNat).length : Int) then (if (((l0.drop ((IntKind.u64.wrap (Int.tdiv a1 32)) : Int).toNat).length : Int) : Int).toNat ≤ 70368744177664 then (impl_magRight.l0 k (l0.drop ((IntKind.u64.wrap (Int.tdiv a1 32)) : Int).toNat) a1 (List.replicate (((l0.drop ((IntKind.u64.wrap (Int.tdiv a1 32)) : Int).toNat).length : Int) : Int).toNat 0) (l0.drop ((IntKind.u64.wrap (Int.tdiv a1 32)) : Int).toNat) ((l0.drop ((IntKind.u64.wrap (Int.tdiv a1 32)) : Int).toNat).length : Int) 0) else (none)) else (none)) else (none)) else (none))) = some r := h
  clear h
  by_cases c3 : (IntKind.u64.wrap ((l0.length : Int))) ≤ (IntKind.u64.wrap (Int.tdiv a1 32))
  · rw [if_pos c3] at H
    have c3b0 : decide ((IntKind.u64.wrap ((l0.length : Int))) ≤ (IntKind.u64.wrap (Int.tdiv a1 32))) = true := decide_eq_true c3
    clear c3
    obtain rfl := Option.some.inj H
    go_enter Try.func91, Try.ntmps91
    go_wp2
    go_ret
    exact ⟨.slice none 0 0, by first | rfl | (simp [errW_none, errW_some] <;> rfl) | (simp [*, errW_none, errW_some] <;> rfl), Kd.V_nil _ _ _ _ _, by repeat (first | (with_reducible first | exact HB.out | apply below_alloc | apply pw_below_drewN | apply below_drew1) | exact HB.out)⟩
  · rw [if_neg c3] at H
    have c3b0 : decide ((IntKind.u64.wrap ((l0.length : Int))) ≤ (IntKind.u64.wrap (Int.tdiv a1 32))) = false := decide_eq_false c3
    clear c3
    obtain ⟨ji4, hji4⟩ : ∃ j_ : Int, (IntKind.u64.wrap (Int.tdiv a1 32)) = j_ := ⟨_, rfl⟩
    replace H : (if 0 ≤ (ji4) then (if (ji4) ≤ (l0.length : Int) then (if 0 ≤ ((l0.drop ((ji4) : Int).toNat).length : Int) then (if (((l0.drop ((ji4) : Int).toNat).length : Int) : Int).toNat ≤ 70368744177664 then (impl_magRight.l0 k (l0.drop ((ji4) : Int).toNat) a1 (List.replicate (((l0.drop ((ji4) : Int).toNat).length : Int) : Int).toNat 0) (l0.drop ((ji4) : Int).toNat) ((l0.drop ((ji4) : Int).toNat).length : Int) 0) else (none)) else (none)) else (none)) else (none)) = some r := by first | (rw [hji4] at H; exact H) | (simp only [hji4] at H ⊢; exact H)
    (try rw [hji4] at c3b0)
    by_cases c5 : 0 ≤ (ji4)
    · rw [if_pos c5] at H
      have c5b0 := eq_true c5
      have c5b1 : decide (0 ≤ (ji4)) = true := decide_eq_true c5
      clear c5
      by_cases c6 : (ji4) ≤ (l0.length : Int)
      · rw [if_pos c6] at H
        have c6b0 := eq_true c6
        have c6b1 : decide ((ji4) ≤ (l0.length : Int)) = true := decide_eq_true c6
        clear c6
        by_cases c7 : 0 ≤ ((l0.drop ((ji4) : Int).toNat).length : Int)
        · rw [if_pos c7] at H
          have c7b0 := eq_true c7
          have c7b1 : decide (0 ≤ ((l0.drop ((ji4) : Int).toNat).length : Int)) = true := decide_eq_true c7
          clear c7
          by_cases c8 : (((l0.drop ((ji4) : Int).toNat).length : Int) : Int).toNat ≤ 70368744177664
          · rw [if_pos c8] at H
            have c8b0 := eq_true c8
            have c8b1 : decide ((((l0.drop ((ji4) : Int).toNat).length : Int) : Int).toNat ≤ 70368744177664) = true := decide_eq_true c8
            clear c8
            obtain ⟨y304, hy304⟩ : ∃ y_ : List Int, y_ = (List.replicate (((l0.drop ((ji4) : Int).toNat).length : Int) : Int).toNat 0) := ⟨_, rfl⟩
            replace H : (impl_magRight.l0 k (l0.drop ((ji4) : Int).toNat) a1 y304 (l0.drop ((ji4) : Int).toNat) ((l0.drop ((ji4) : Int).toNat).length : Int) 0) = some r := by first | (rw [hy304]; with_reducible exact H) | (have H2_ := (Option.bind_some _ _).symm.trans H; rw [hy304]; with_reducible exact H2_) | (have H2_ := (Option.bind_some _ _).symm.trans H; with_reducible exact H2_) | with_reducible exact H | (rw [hy304]; exact H) | exact H
            have Ny304 := Aside0.mk hy304
            clear hy304
            have H' := Aside0.mk H
            clear H
            obtain ⟨i09, hi09, _, hsz9, _⟩ := info_parts info94
            obtain ⟨A9, hcut9, hA9, hC9⟩ := print_drop_of (P := Try.prog) (Value.int .u32) 0 55 94 .u64 Try.underlying55 hi09 hsz9 A0 c0 l0 (ji4) (of_decide_eq_true (by first | (with_reducible assumption) | assumption)) (of_decide_eq_true (by first | (with_reducible assumption) | assumption)) HC0.out
            have HR303 := Aside0.mk (Kd.C_of_reads (h1 := fun _ => rfl) (hA9 _ (Kd.reads_of_C HR0.out)))
            have HC303 := Aside0.mk hC9
            clear hA9 hC9 hi09 hsz9
            generalize hm0_ : l0.drop ((ji4) : Int).toNat = m0_ at *
            have Hm0_ := Aside0.mk hm0_
            clear hm0_
            go_enter Try.func91, Try.ntmps91
            go_wp2_with (first | ((with_reducible refine gate_dst (N := 21) rfl ?_); refine Kd.R_make (Kd.int .u32) _ 94 rfl (N := 21) rfl 55 _ _ rfl (m0_.length : Int) rfl rfl Try.underlying55 (.int .u32 0) 4 info94 rfl (by decide) (by omega) 0 (ok := fun _ => True) (okp := fun _ => True) rfl (fun _ hk => hk) trivial (of_decide_eq_true (by first | (with_reducible assumption) | assumption)) (Nat.le_trans (Nat.mul_le_mul_right _ (of_decide_eq_true (by first | (with_reducible assumption) | assumption) : (m0_.length : Int).toNat ≤ 70368744177664)) (by omega)) (Below.refl _ _) (Nat.le_refl _) ?_; intro v305 w10 ho11 hb hg_ hnew_; clear hg_ hnew_; (first | rw [← Ny304.out] at ho11 | (simp only [Int.reduceToNat] at ho11; rw [← Ny304.out] at ho11)); have n0_ := Aside0.mk (Kd.R_lower (Kd.R_newM (M := fun k_ => (w.heap.size ≤ k_)) ho11 (below_size (by repeat (first | (with_reducible first | exact HB.out | apply below_alloc | apply pw_below_drewN | apply below_drew1) | exact HB.out))) (fun k_ h_ => h_)) (below_size (by repeat (first | (with_reducible first | exact HB.out | apply below_alloc | apply pw_below_drewN | apply below_drew1) | exact HB.out)))); have n1_ := Aside0.mk (below_step (by repeat (first | (with_reducible first | exact HB.out | apply below_alloc | apply pw_below_drewN | apply below_drew1) | exact HB.out)) hb); clear HB; have HO306 := n0_; have HB := n1_; clear n0_ n1_; clear hb ho11))
            go_loopg [24] k (fun kq v24 w' => ∃ (x5_1 : List Int) (x24_1 : Int), v24 = .int .i64 x24_1 ∧ Aside0 (impl_magRight.l0 kq m0_ a1 x5_1 m0_ (m0_.length : Int) x24_1 = some r) ∧ Aside0 (kq ≤ k) ∧ Aside0 (Kd.R (Kd.int .u32) 94 w' w.heap.size (fun k_ => (w.heap.size ≤ k_)) v305 x5_1) ∧ Aside0 (Below w.heap.size w w'))
            case atStart => exact ⟨(y304), (0), (by first | rfl | (simp; done) | (simp [*]; done)), H', ⟨Nat.le_refl _⟩, ⟨by (with_reducible repeat (first | apply Kd.R_alloc | apply Kd.R_drewN | apply Kd.R_drew)); exact Kd.R_mono HO306.out (fun _ hk => hk.1)⟩, ⟨by repeat (first | (with_reducible first | exact HB.out | apply below_alloc | apply pw_below_drewN | apply below_drew1) | exact HB.out)⟩⟩
            case round =>
              clear H'
              try clear p2
              try clear c3
              try clear c3b0
              try clear c5
              try clear c5b0
              try clear c5b1
              try clear c6
              try clear c6b0
              try clear c6b1
              try clear c7
              try clear c7b0
              try clear c7b1
              try clear c8
              try clear c8b0
              try clear c8b1
              try clear c9
              obtain ⟨x5_1, x24_1, rfl, HA, HK1, HO_5, HB⟩ := hrel
              cases gk with
              | zero => exact absurd HA.out (by simp [impl_magRight.l0])
              | succ k1 =>
                have H := HA.out
                clear HA
                simp only [impl_magRight.l0] at H
                by_cases c12 : x24_1 < (m0_.length : Int)
                · rw [if_pos c12] at H
                  have c12b0 : decide (x24_1 < (m0_.length : Int)) = true := decide_eq_true c12
                  clear c12
                  by_cases c13 : 0 ≤ x24_1
                  · rw [if_pos c13] at H
                    have c13b0 : decide (0 ≤ x24_1) = true := decide_eq_true c13
                    clear c13
                    by_cases c14 : x24_1 < (m0_.length : Int)
                    · rw [if_pos c14] at H
                      have c14b0 : decide (x24_1 < (m0_.length : Int)) = true := decide_eq_true c14
                      clear c14
                      by_cases c15 : (wrap64 (x24_1 + 1)) < (m0_.length : Int)
                      · rw [if_pos c15] at H
                        have c15b0 : decide ((wrap64 (x24_1 + 1)) < (m0_.length : Int)) = true := decide_eq_true c15
                        clear c15
                        obtain ⟨ji16, hji16⟩ : ∃ j_ : Int, (wrap64 (x24_1 + 1)) = j_ := ⟨_, rfl⟩
                        replace H : (if 0 ≤ (ji16) then (if 0 ≤ (Int.tmod a1 32) then (if x24_1 < (x5_1.length : Int) then (impl_magRight.l0 k1 m0_ a1 (x5_1.set (x24_1 : Int).toNat ((shr .u64 (Go.bits .or .u64 (IntKind.u64.wrap (rd m0_ x24_1)) (IntKind.u64.wrap ((IntKind.u64.wrap (rd m0_ (ji16))) * 4294967296))) (Int.tmod a1 32)) % 4294967296)) m0_ (m0_.length : Int) ji16) else (none)) else (none)) else (none)) = some r := by first | (rw [hji16] at H; exact H) | (simp only [hji16] at H ⊢; exact H)
                        (try rw [hji16] at c15b0)
                        have hji16w : (IntKind.i64.wrap (x24_1 + 1)) = ji16 := (i64_w _).trans hji16
                        by_cases c17 : 0 ≤ (ji16)
                        · rw [if_pos c17] at H
                          have c17b0 : decide (0 ≤ (ji16)) = true := decide_eq_true c17
                          clear c17
                          obtain ⟨ji18, hji18⟩ : ∃ j_ : Int, (Int.tmod a1 32) = j_ := ⟨_, rfl⟩
                          replace H : (if 0 ≤ (ji18) then (if x24_1 < (x5_1.length : Int) then (impl_magRight.l0 k1 m0_ a1 (x5_1.set (x24_1 : Int).toNat ((shr .u64 (Go.bits .or .u64 (IntKind.u64.wrap (rd m0_ x24_1)) (IntKind.u64.wrap ((IntKind.u64.wrap (rd m0_ (ji16))) * 4294967296))) (ji18)) % 4294967296)) m0_ (m0_.length : Int) ji16) else (none)) else (none)) = some r := by first | (rw [hji18] at H; exact H) | (simp only [hji18] at H ⊢; exact H)
                          by_cases c19 : 0 ≤ (ji18)
                          · rw [if_pos c19] at H
                            have c19b0 := eq_true c19
                            have c19b1 : decide (0 ≤ (ji18)) = true := decide_eq_true c19
                            clear c19
                            obtain ⟨ji20, hji20⟩ : ∃ j_ : Int, (shr .u64 (Go.bits .or .u64 (IntKind.u64.wrap (rd m0_ x24_1)) (IntKind.u64.wrap ((IntKind.u64.wrap (rd m0_ (ji16))) * 4294967296))) (ji18)) = j_ := ⟨_, rfl⟩
                            replace H : (if x24_1 < (x5_1.length : Int) then (impl_magRight.l0 k1 m0_ a1 (x5_1.set (x24_1 : Int).toNat ((ji20) % 4294967296)) m0_ (m0_.length : Int) ji16) else (none)) = some r := by first | (rw [hji20] at H; exact H) | (simp only [hji20] at H ⊢; exact H)
                            have hji20_ : ((Go.bits .or .u64 (IntKind.u64.wrap (rd m0_ x24_1)) (IntKind.u64.wrap ((IntKind.u64.wrap (rd m0_ (ji16))) * 4294967296))) / 2 ^ min (ji18).toNat 64) = ji20 := hji20
                            have hji20z : (ji18) ≤ 64 → ((Go.bits .or .u64 (IntKind.u64.wrap (rd m0_ x24_1)) (IntKind.u64.wrap ((IntKind.u64.wrap (rd m0_ (ji16))) * 4294967296))) / 2 ^ (ji18).toNat) = ji20 := shr_small hji20
                            by_cases c21 : x24_1 < (x5_1.length : Int)
                            · rw [if_pos c21] at H
                              have c21b0 : decide (x24_1 < (x5_1.length : Int)) = true := decide_eq_true c21
                              clear c21
                              obtain ⟨y309, hy309⟩ : ∃ y_ : List Int, y_ = (x5_1.set (x24_1 : Int).toNat ((ji20) % 4294967296)) := ⟨_, rfl⟩
                              replace H : (impl_magRight.l0 k1 m0_ a1 y309 m0_ (m0_.length : Int) ji16) = some r := by first | (rw [hy309]; with_reducible exact H) | (have H2_ := (Option.bind_some _ _).symm.trans H; rw [hy309]; with_reducible exact H2_) | (have H2_ := (Option.bind_some _ _).symm.trans H; with_reducible exact H2_) | with_reducible exact H | (rw [hy309]; exact H) | exact H
                              have Ny309 := Aside0.mk hy309
                              clear hy309
                              have H' := Aside0.mk H
                              clear H
                              have p307 : 0 ≤ (x24_1 : Int) := of_decide_eq_true (by first | (with_reducible assumption) | assumption)
                              have q307 : x24_1 < (m0_.length : Int) := of_decide_eq_true (by first | (with_reducible assumption) | assumption)
                              obtain ⟨ad307, e307, hx307_0⟩ := Kd.at_int HR303.out x24_1 p307 q307
                              cases e307
                              replace hx307_0 := (HB.out.cell (World.block_lt_of_cell? w _ hx307_0)).trans hx307_0
                              replace p307 := eq_true p307
                              replace q307 := eq_true q307
                              have p308 : 0 ≤ ((ji16) : Int) := of_decide_eq_true (by first | (with_reducible assumption) | assumption)
                              have q308 : (ji16) < (m0_.length : Int) := of_decide_eq_true (by first | (with_reducible assumption) | assumption)
                              obtain ⟨ad308, e308, hx308_0⟩ := Kd.at_int HR303.out (ji16) p308 q308
                              obtain rfl : ad307 = ad308 := (by injection e308)
                              replace hx308_0 := (HB.out.cell (World.block_lt_of_cell? w _ hx308_0)).trans hx308_0
                              replace p308 := eq_true p308
                              replace q308 := eq_true q308
                              have p22 : 0 ≤ (x24_1 : Int) := of_decide_eq_true (by first | (with_reducible assumption) | assumption)
                              have q22 : (x24_1 : Int) < ((x5_1.length : Int) : Int) := of_decide_eq_true (by first | (with_reducible assumption) | assumption)
                              obtain ⟨go22, co22, eo22, gb22, gl22, cl22, HG22⟩ := Kd.R_form HO_5.out (by omega)
                              (first | cases eo22 | (injection eo22 with ea_ en_ ec_; (first | subst ea_ | (injection ea_ with ea_; subst ea_)); subst ec_; clear en_))
                              have GB22 := Aside0.mk gb22
                              have GG22 := Aside0.mk HG22
                              clear gb22 gl22 HG22
                              obtain ⟨hx22_0, hf22_0⟩ := Kd.R_celln 0 HO_5.out (x24_1 : Int) p22 q22
                              replace p22 := eq_true p22
                              replace q22 := eq_true q22
                              have HP23 := Kd.R_putg HO_5.out (x24_1 : Int) ((ji20) % 4294967296)
                              go_wp2_with (first | ((with_reducible refine gate_store (t := 94) (p := 52) rfl ?_); refine store_event (t := 94) (p := 52) (v := ?vo_w24) (w1 := (wr.setCell ⟨go22, (x24_1 : Int).toNat, none⟩ (.int .u32 ((ji20) % 4294967296)))) ?hg ?ho ?hn ?hr ?_; (case ho => rfl); (case hg => rfl); (case hn => rfl); (case hr => first | (go_simp; done) | (go_simp; rfl)); intro w24 hw; have hg : wr.grownBy w24 (some go22) := (by rw [hw]; exact HP23.2); have hp_ : Kd.R (Kd.int .u32) 94 w24 w.heap.size (fun k_ => (w.heap.size ≤ k_)) (.slice (some ⟨go22, 0, none⟩) x5_1.length co22) y309 := (by rw [hw, Ny309.out]; exact HP23.1); clear HP23; have n0_ := Aside0.mk (hp_); have n1_ := Aside0.mk ((by rw [hw]; exact below_set (HB.out) GB22.out : Below w.heap.size w w24)); clear HO_5; clear HB; have HO_5 := n0_; have HB := n1_; clear n0_ n1_; clear hg hw hp_))
                              go_roundg k1
                              case measure => have := HK1.out; omega
                              case rel => exact ⟨(y309), (ji16), (by first | rfl | (simp; done) | (simp only [← hji16] <;> (first | rfl | simp)) | (simp [*]; done)), H', ⟨by have := HK1.out; omega⟩, ⟨by (with_reducible repeat (first | apply Kd.R_alloc | apply Kd.R_drewN | apply Kd.R_drew)); exact HO_5.out⟩, ⟨by repeat (first | (with_reducible first | exact HB.out | apply below_alloc | apply pw_below_drewN | apply below_drew1) | exact HB.out)⟩⟩
                            · rw [if_neg c21] at H
                              exact absurd H (by simp)
                          · rw [if_neg c19] at H
                            exact absurd H (by simp)
                        · rw [if_neg c17] at H
                          exact absurd H (by simp)
                      · rw [if_neg c15] at H
                        have c15b0 : decide ((wrap64 (x24_1 + 1)) < (m0_.length : Int)) = false := decide_eq_false c15
                        clear c15
                        obtain ⟨ji25, hji25⟩ : ∃ j_ : Int, (Int.tmod a1 32) = j_ := ⟨_, rfl⟩
                        replace H : (if 0 ≤ (ji25) then (if x24_1 < (x5_1.length : Int) then (impl_magRight.l0 k1 m0_ a1 (x5_1.set (x24_1 : Int).toNat ((shr .u64 (IntKind.u64.wrap (rd m0_ x24_1)) (ji25)) % 4294967296)) m0_ (m0_.length : Int) (wrap64 (x24_1 + 1))) else (none)) else (none)) = some r := by first | (rw [hji25] at H; exact H) | (simp only [hji25] at H ⊢; exact H)
                        by_cases c26 : 0 ≤ (ji25)
                        · rw [if_pos c26] at H
                          have c26b0 := eq_true c26
                          have c26b1 : decide (0 ≤ (ji25)) = true := decide_eq_true c26
                          clear c26
                          obtain ⟨ji27, hji27⟩ : ∃ j_ : Int, (shr .u64 (IntKind.u64.wrap (rd m0_ x24_1)) (ji25)) = j_ := ⟨_, rfl⟩
                          replace H : (if x24_1 < (x5_1.length : Int) then (impl_magRight.l0 k1 m0_ a1 (x5_1.set (x24_1 : Int).toNat ((ji27) % 4294967296)) m0_ (m0_.length : Int) (wrap64 (x24_1 + 1))) else (none)) = some r := by first | (rw [hji27] at H; exact H) | (simp only [hji27] at H ⊢; exact H)
                          have hji27_ : ((IntKind.u64.wrap (rd m0_ x24_1)) / 2 ^ min (ji25).toNat 64) = ji27 := hji27
                          have hji27z : (ji25) ≤ 64 → ((IntKind.u64.wrap (rd m0_ x24_1)) / 2 ^ (ji25).toNat) = ji27 := shr_small hji27
                          by_cases c28 : x24_1 < (x5_1.length : Int)
                          · rw [if_pos c28] at H
                            have c28b0 : decide (x24_1 < (x5_1.length : Int)) = true := decide_eq_true c28
                            clear c28
                            obtain ⟨y310, hy310⟩ : ∃ y_ : List Int, y_ = (x5_1.set (x24_1 : Int).toNat ((ji27) % 4294967296)) := ⟨_, rfl⟩
                            replace H : (impl_magRight.l0 k1 m0_ a1 y310 m0_ (m0_.length : Int) (wrap64 (x24_1 + 1))) = some r := by first | (rw [hy310]; with_reducible exact H) | (have H2_ := (Option.bind_some _ _).symm.trans H; rw [hy310]; with_reducible exact H2_) | (have H2_ := (Option.bind_some _ _).symm.trans H; with_reducible exact H2_) | with_reducible exact H | (rw [hy310]; exact H) | exact H
                            have Ny310 := Aside0.mk hy310
                            clear hy310
                            have H' := Aside0.mk H
                            clear H
                            have p307 : 0 ≤ (x24_1 : Int) := of_decide_eq_true (by first | (with_reducible assumption) | assumption)
                            have q307 : x24_1 < (m0_.length : Int) := of_decide_eq_true (by first | (with_reducible assumption) | assumption)
                            obtain ⟨ad307, e307, hx307_0⟩ := Kd.at_int HR303.out x24_1 p307 q307
                            cases e307
                            replace hx307_0 := (HB.out.cell (World.block_lt_of_cell? w _ hx307_0)).trans hx307_0
                            replace p307 := eq_true p307
                            replace q307 := eq_true q307
                            have p29 : 0 ≤ (x24_1 : Int) := of_decide_eq_true (by first | (with_reducible assumption) | assumption)
                            have q29 : (x24_1 : Int) < ((x5_1.length : Int) : Int) := of_decide_eq_true (by first | (with_reducible assumption) | assumption)
                            obtain ⟨go29, co29, eo29, gb29, gl29, cl29, HG29⟩ := Kd.R_form HO_5.out (by omega)
                            (first | cases eo29 | (injection eo29 with ea_ en_ ec_; (first | subst ea_ | (injection ea_ with ea_; subst ea_)); subst ec_; clear en_))
                            have GB29 := Aside0.mk gb29
                            have GG29 := Aside0.mk HG29
                            clear gb29 gl29 HG29
                            obtain ⟨hx29_0, hf29_0⟩ := Kd.R_celln 0 HO_5.out (x24_1 : Int) p29 q29
                            replace p29 := eq_true p29
                            replace q29 := eq_true q29
                            have HP30 := Kd.R_putg HO_5.out (x24_1 : Int) ((ji27) % 4294967296)
                            go_wp2_with (first | ((with_reducible refine gate_store (t := 94) (p := 52) rfl ?_); refine store_event (t := 94) (p := 52) (v := ?vo_w31) (w1 := (wr.setCell ⟨go29, (x24_1 : Int).toNat, none⟩ (.int .u32 ((ji27) % 4294967296)))) ?hg ?ho ?hn ?hr ?_; (case ho => rfl); (case hg => rfl); (case hn => rfl); (case hr => first | (go_simp; done) | (go_simp; rfl)); intro w31 hw; have hg : wr.grownBy w31 (some go29) := (by rw [hw]; exact HP30.2); have hp_ : Kd.R (Kd.int .u32) 94 w31 w.heap.size (fun k_ => (w.heap.size ≤ k_)) (.slice (some ⟨go29, 0, none⟩) x5_1.length co29) y310 := (by rw [hw, Ny310.out]; exact HP30.1); clear HP30; have n0_ := Aside0.mk (hp_); have n1_ := Aside0.mk ((by rw [hw]; exact below_set (HB.out) GB29.out : Below w.heap.size w w31)); clear HO_5; clear HB; have HO_5 := n0_; have HB := n1_; clear n0_ n1_; clear hg hw hp_))
                            go_roundg k1
                            case measure => have := HK1.out; omega
                            case rel => exact ⟨(y310), (wrap64 (x24_1 + 1)), (by first | rfl | (simp; done) | (simp [*]; done)), H', ⟨by have := HK1.out; omega⟩, ⟨by (with_reducible repeat (first | apply Kd.R_alloc | apply Kd.R_drewN | apply Kd.R_drew)); exact HO_5.out⟩, ⟨by repeat (first | (with_reducible first | exact HB.out | apply below_alloc | apply pw_below_drewN | apply below_drew1) | exact HB.out)⟩⟩
                          · rw [if_neg c28] at H
                            exact absurd H (by simp)
                        · rw [if_neg c26] at H
                          exact absurd H (by simp)
                    · rw [if_neg c14] at H
                      exact absurd H (by simp)
                  · rw [if_neg c13] at H
                    exact absurd H (by simp)
                · rw [if_neg c12] at H
                  have c12b0 : decide (x24_1 < (m0_.length : Int)) = false := decide_eq_false c12
                  clear c12
                  replace H := Option.bind_eq_some_iff.mp H
                  obtain ⟨t311, A320, H⟩ := H
                  replace H : (some t311) = some r := H
                  have A32 := Aside0.mk A320
                  clear A320
                  obtain rfl := Option.some.inj H
                  obtain ⟨Ao33, co33, eo33⟩ := Kd.R_slice HO_5.out
                  subst eo33
                  go_wp2_with (first | ((with_reducible refine gate_callee (f := 75) rfl ?_); refine goesL_ (some 55) rfl rfl Try.func75 (by kernel_rfl) rfl #[.slice Ao33 x5_1.length co33] rfl (by (try simp only [List.map_toArray, List.map_cons, List.map_nil]); first | done | rfl | (simp only [List.length_drop, List.length_take]; rfl)) ?_; (with_reducible refine (impl_magTrim.calls k1 (fun k_ => some k_ = (.slice Ao33 x5_1.length co33 : Value).ownBlock) _ _ x5_1 t311 _ ?side1 A32.out).mono ?_); (case side1 => exact Kd.R_V (Kd.R_tight rfl (HO_5.out))); rintro e w34 ⟨v312, rfl, ho0, hb⟩; refine ⟨_, rfl, ?_⟩; have n0_ := Aside0.mk (Kd.R_below (by (with_reducible repeat (first | apply Kd.R_alloc | apply Kd.R_drewN | apply Kd.R_drew)); exact HO_5.out) hb); have n1_ := Aside0.mk (Kd.V_lower (Kd.V_mono (ok' := fun k_ => (w.heap.size ≤ k_)) ho0 (fun k_ hk_ => Or.elim hk_ (fun hs_ => ((HO_5.out).1 k_ hs_.symm)) (fun hn_ => (Nat.le_trans (below_size (by repeat (first | (with_reducible first | exact HB.out | apply below_alloc | apply pw_below_drewN | apply below_drew1) | exact HB.out))) hn_)))) (below_size (by repeat (first | (with_reducible first | exact HB.out | apply below_alloc | apply pw_below_drewN | apply below_drew1) | exact HB.out)))); have n2_ := Aside0.mk (below_step (by repeat (first | (with_reducible first | exact HB.out | apply below_alloc | apply pw_below_drewN | apply below_drew1) | exact HB.out)) hb); clear HO_5; clear HB; have HO_5 := n0_; have HO313 := n1_; have HB := n2_; clear n0_ n1_ n2_; (try clear hb); (try clear hb2); (try clear hk); (try clear hi); (try clear ho0)))
                  go_ret
                  exact ⟨_, by first | rfl | (simp [errW_none, errW_some] <;> rfl) | (simp only [← hji4]; first | rfl | (simp [errW_none, errW_some] <;> rfl)) | (simp [*, errW_none, errW_some] <;> rfl), by (with_reducible repeat (first | apply Kd.V_alloc | apply Kd.V_drewN | apply Kd.V_drew)); exact HO313.out, by repeat (first | (with_reducible first | exact HB.out | apply below_alloc | apply pw_below_drewN | apply below_drew1) | exact HB.out)⟩
          · rw [if_neg c8] at H
            exact absurd H (by simp)
        · rw [if_neg c7] at H
          exact absurd H (by simp)
      · rw [if_neg c6] at H
        exact absurd H (by simp)
    · rw [if_neg c5] at H
      exact absurd H (by simp)
end Go.Proofs.Ythanlckjfghnkaa.PW
end
section
namespace Go.Proofs.Ythanlckjfghnkaa.Pn
open Go.RowKit Go.Proofs.YthanlckjfghnkaaW.PrintWords Go.Proofs.YthanlckjfghnkaaW.PrintMore Go.Proofs.Ythanlckjfghnkaa.PW Go.Proofs.Ythanlckjfghnkaa.Pc Dg
set_option linter.unusedVariables false
set_option linter.unusedSimpArgs false
theorem u64_id {n : Int} (h0 : 0 ≤ n) (h1 : n < 18446744073709551616) : IntKind.u64.wrap n = n := by rw [IntKind.wrap_u64]; omega
theorem trimD {ys : List Int} {n : Nat} (hd : Dig 4294967296 ys) (hl : ys.length ≤ 1099511627776) (hv : val 4294967296 ys = n) : Ev (fun k => (impl_magTrim.f k ys).bind fun t => some t) (D n) := by
  have := Pm.trim _ ys rfl hd hl
  rw [hv, Int.toNat_natCast] at this
  exact Ev.bind (f := fun _ t => some t) this (ev_of fun _ => rfl)
theorem add_loop (a b : List Int) (ha : Dig 4294967296 a) (hb : Dig 4294967296 b) (hab : b.length ≤ a.length) (hm : a.length ≤ 1073741824) (s : Nat) (hs : val 4294967296 a + val 4294967296 b = s) (d : Nat) :
    ∀ (i : Nat) (ys : List Int) (c : Int), i + d = a.length → ys.length = a.length + 1 → Dig 4294967296 ys → 0 ≤ c → c ≤ 1 →
      val 4294967296 (ys.take i) + 4294967296 ^ i * c = val 4294967296 (a.take i) + val 4294967296 (b.take i) →
      Ev (fun k => impl_magAdd.l0 k a b ys c a (a.length : Int) (i : Int)) (D s) := by
  induction d with
  | zero =>
    intro i ys c hd hy hdy hc0 hc1 hinv
    have hi : i = a.length := by omega
    subst hi
    have hdig : Dig 4294967296 (ys.set a.length c) := hdy.set _ hc0 (by omega)
    have hval : val 4294967296 (ys.set a.length c) = s := by
      have h1 := val_set_take (B := 4294967296) (l := ys) (i := a.length) (by omega) c
      rw [List.take_of_length_le (by simp <;> omega)] at h1
      rw [h1]
      rw [List.take_length, val_take_ge hab, hs] at hinv
      exact hinv
    refine Ev.step (f := fun k => (impl_magTrim.f k (ys.set a.length c)).bind fun t => some t) (fun k => ?_) (trimD hdig (by simp <;> omega) hval)
    simp only [impl_magAdd.l0]
    rw [if_neg (by omega), if_pos (by omega), if_pos (by omega), Int.toNat_natCast, show c % 4294967296 = c by omega]
  | succ d ih =>
    intro i ys c hd hy hdy hc0 hc1 hinv
    have hai := ha.all0 (by decide) i
    have hbi := hb.all0 (by decide) i
    obtain ⟨x, hx⟩ : ∃ x, x = a.getD i 0 + b.getD i 0 + c := ⟨_, rfl⟩
    have hx0 : 0 ≤ x := by omega
    have hx1 : x ≤ 8589934591 := by omega
    have hstep := Ev.step (g := fun k => impl_magAdd.l0 k a b ys c a (a.length : Int) (i : Int)) (f := fun k => impl_magAdd.l0 k a b (ys.set i (x % 4294967296)) (x / 4294967296) a (a.length : Int) ((i + 1 : Nat) : Int)) (fun k => ?_)
      (ih (i + 1) _ (x / 4294967296) (by omega) (by simpa using hy) (hdy.set _ (by omega) (by omega)) (by omega) (by omega) ?_)
    · exact hstep
    · simp only [impl_magAdd.l0]
      rw [if_pos (by omega), if_pos (by omega), if_pos (by omega), rdN, rdN, wrapZ _ (by omega) (by omega)]
      by_cases hib : i < b.length
      · rw [if_pos (by omega), if_pos (by omega), u64_id (n := a.getD i 0) (by omega) (by omega), u64_id (n := c + _) (by omega) (by omega), u64_id (n := b.getD i 0) (by omega) (by omega), u64_id (by omega) (by omega)]
        rw [show c + a.getD i 0 + b.getD i 0 = x by omega]
        rfl
      · have hb0 : b.getD i 0 = 0 := getD_ge (by omega)
        rw [if_neg (by omega), if_pos (by omega), u64_id (n := a.getD i 0) (by omega) (by omega), u64_id (n := c + _) (by omega) (by omega)]
        rw [show c + a.getD i 0 = x by omega]
        rfl
    · rw [val_set_take (by omega), val_take_succ' a i, val_take_succ' b i]
      have := add_step (a := a.getD i 0) (b := b.getD i 0) (c := c) (x := x % 4294967296) (c' := x / 4294967296) (p := 4294967296) hinv (by omega)
      rw [Int.pow_succ]
      exact this
theorem add (a b : Nat) (hlen : (D b).length ≤ (D a).length) (ha : bl a ≤ 1073741823) : Ev (fun k => impl_magAdd.f k (D a) (D b)) (D (a + b)) := by
  have h1 := D_len a
  unfold impl_magAdd.f
  rw [wrapZ _ (by omega) (by omega)]
  refine ifp (by omega) (ifp (by omega) ?_)
  have := add_loop (D a) (D b) (D_dig a) (D_dig b) hlen (by omega) (a + b) (by rw [D_val, D_val]; omega) (D a).length 0 (List.replicate (((D a).length : Int) + 1).toNat 0) 0 (by omega) (by simp <;> omega) (dig_replicate (by decide) _) (by omega) (by omega) (by simp [val])
  exact this
theorem sub_loop (a b : List Int) (ha : Dig 4294967296 a) (hb : Dig 4294967296 b) (hab : b.length ≤ a.length) (hm : a.length ≤ 1073741824) (s : Nat) (hs : val 4294967296 a - val 4294967296 b = s) (d : Nat) :
    ∀ (i : Nat) (ys : List Int) (c : Int), i + d = a.length → ys.length = a.length → Dig 4294967296 ys → 0 ≤ c → c ≤ 1 →
      val 4294967296 (ys.take i) - 4294967296 ^ i * c = val 4294967296 (a.take i) - val 4294967296 (b.take i) →
      Ev (fun k => impl_magSub.l0 k b ys c a (a.length : Int) (i : Int)) (D s) := by
  induction d with
  | zero =>
    intro i ys c hd hy hdy hc0 hc1 hinv
    have hi : i = a.length := by omega
    subst hi
    rw [List.take_length, val_take_ge hab, val_take_ge (by omega), hs] at hinv
    have hlt := val_lt (by decide) hdy
    rw [hy] at hlt
    have hval : val 4294967296 ys = s := by
      have hc : c = 0 ∨ c = 1 := by omega
      rcases hc with rfl | rfl
      · omega
      · exfalso
        rw [Int.mul_one] at hinv
        have : ((4294967296 : Nat) : Int) ^ a.length = (4294967296 : Int) ^ a.length := rfl
        omega
    refine Ev.step (f := fun k => (impl_magTrim.f k ys).bind fun t => some t) (fun k => ?_) (trimD hdy (by omega) hval)
    simp only [impl_magSub.l0]
    rw [if_neg (by omega)]
  | succ d ih =>
    intro i ys c hd hy hdy hc0 hc1 hinv
    have hai := ha.all0 (by decide) i
    have hbi := hb.all0 (by decide) i
    obtain ⟨x, hx⟩ : ∃ x, x = IntKind.u64.wrap (a.getD i 0 - (b.getD i 0 + c)) := ⟨_, rfl⟩
    have hx' := hx
    rw [IntKind.wrap_u64] at hx'
    have hstep := Ev.step (g := fun k => impl_magSub.l0 k b ys c a (a.length : Int) (i : Int)) (f := fun k => impl_magSub.l0 k b (ys.set i (x % 4294967296)) (x / 9223372036854775808) a (a.length : Int) ((i + 1 : Nat) : Int)) (fun k => ?_)
      (ih (i + 1) _ (x / 9223372036854775808) (by omega) (by simpa using hy) (hdy.set _ (by omega) (by omega)) (by omega) (by omega) ?_)
    · exact hstep
    · simp only [impl_magSub.l0]
      rw [if_pos (by omega), if_pos (by omega), if_pos (by omega), rdN, rdN, wrapZ _ (by omega) (by omega)]
      by_cases hib : i < b.length
      · rw [if_pos (by omega), if_pos (by omega), u64_id (n := a.getD i 0) (by omega) (by omega), u64_id (n := b.getD i 0) (by omega) (by omega), u64_id (n := c + _) (by omega) (by omega)]
        rw [show c + b.getD i 0 = b.getD i 0 + c by omega, ← hx]
        rfl
      · have hb0 : b.getD i 0 = 0 := getD_ge (by omega)
        rw [if_neg (by omega), if_pos (by omega), u64_id (n := a.getD i 0) (by omega) (by omega)]
        rw [hb0, Int.zero_add] at hx
        rw [← hx]
        rfl
    · rw [val_set_take (by omega), val_take_succ' a i, val_take_succ' b i]
      have := sub_step (a := a.getD i 0) (b := b.getD i 0) (c := c) (x := x % 4294967296) (c' := x / 9223372036854775808) (p := 4294967296) hinv (by omega)
      rw [Int.pow_succ]
      exact this
theorem D_len_mono {a b : Nat} (h : b ≤ a) : (D b).length ≤ (D a).length := by
  rcases Nat.lt_or_ge (D a).length (D b).length with h1 | h1
  · have := val_lt_of_length (by decide) (D_dig a) (D_dig b) (D_top b) h1
    rw [D_val, D_val] at this
    omega
  · exact h1
theorem sub (a b : Nat) (hab : b ≤ a) (ha : bl a ≤ 1073741823) : Ev (fun k => impl_magSub.f k (D a) (D b)) (D (a - b)) := by
  have h1 := D_len a
  unfold impl_magSub.f
  refine ifp (by omega) (ifp (by omega) ?_)
  have := sub_loop (D a) (D b) (D_dig a) (D_dig b) (D_len_mono hab) (by omega) (a - b) (by rw [D_val, D_val]; omega) (D a).length 0 (List.replicate ((D a).length : Int).toNat 0) 0 (by omega) (by simp) (dig_replicate (by decide) _) (by omega) (by omega) (by simp [val])
  exact this
theorem mul_inner (a b : List Int) (ha : Dig 4294967296 a) (hb : Dig 4294967296 b) (hm : a.length + b.length ≤ 1073741824) (i : Nat) (hi : i < a.length) (R : List Int) (V0 : Int)
    (next : ∀ ys : List Int, ys.length = a.length + b.length → Dig 4294967296 ys → (∀ j, i + 1 + b.length ≤ j → ys.getD j 0 = 0) → val 4294967296 ys = V0 + 4294967296 ^ i * (a.getD i 0 * val 4294967296 b) →
      Ev (fun k => impl_magMul.l0 k b ys a (a.length : Int) ((i + 1 : Nat) : Int)) R) (d : Nat) :
    ∀ (k : Nat) (ys : List Int) (c : Int), k + d = b.length → ys.length = a.length + b.length → Dig 4294967296 ys → 0 ≤ c → c < 4294967296 → (∀ j, i + b.length ≤ j → ys.getD j 0 = 0) →
      val 4294967296 ys + 4294967296 ^ (i + k) * c = V0 + 4294967296 ^ i * (a.getD i 0 * val 4294967296 (b.take k)) →
      Ev (fun n => impl_magMul.l1 n b ys (i : Int) (a.getD i 0) c a (a.length : Int) (i : Int) b (b.length : Int) (k : Int)) R := by
  induction d with
  | zero =>
    intro k ys c hd hy hdy hc0 hc1 hz hinv
    have hk : k = b.length := by omega
    subst hk
    have hz1 := hz (i + b.length) (by omega)
    refine Ev.step (f := fun n => impl_magMul.l0 n b (ys.set (i + b.length) c) a (a.length : Int) ((i + 1 : Nat) : Int)) (fun n => ?_) (next _ (by simpa using hy) (hdy.set _ hc0 (by omega)) (fun j hj => ?_) ?_)
    · simp only [impl_magMul.l1]
      rw [if_neg (by omega), wrapZ _ (by omega) (by omega), if_pos (by omega), if_pos (by omega), wrapZ _ (by omega) (by omega), show c % 4294967296 = c by omega, show ((i : Int) + (b.length : Int)).toNat = i + b.length by omega]
      rfl
    · rw [Dg.getD_set_ne (by omega)]; exact hz j (by omega)
    · rw [val_set (by omega), hz1, Int.sub_zero]
      rw [List.take_length] at hinv
      exact hinv
  | succ d ih =>
    intro k ys c hd hy hdy hc0 hc1 hz hinv
    have hai := ha.all0 (by decide) i
    have hbk := hb.all0 (by decide) k
    have hyk := hdy.all0 (by decide) (i + k)
    have hp0 : 0 ≤ a.getD i 0 * b.getD k 0 := Int.mul_nonneg hai.1 hbk.1
    have hp1 : a.getD i 0 * b.getD k 0 ≤ 4294967295 * 4294967295 := Int.mul_le_mul (by omega) (by omega) hbk.1 (by omega)
    obtain ⟨x, hx⟩ : ∃ x, x = c + (a.getD i 0 * b.getD k 0 + ys.getD (i + k) 0) := ⟨_, rfl⟩
    refine Ev.step (f := fun n => impl_magMul.l1 n b (ys.set (i + k) (x % 4294967296)) (i : Int) (a.getD i 0) (x / 4294967296) a (a.length : Int) (i : Int) b (b.length : Int) ((k + 1 : Nat) : Int)) (fun n => ?_)
      (ih (k + 1) _ _ (by omega) (by simpa using hy) (hdy.set _ (by omega) (by omega)) (by omega) (by omega) (fun j hj => ?_) ?_)
    · simp only [impl_magMul.l1]
      rw [if_pos (by omega), if_pos (by omega), if_pos (by omega), wrapZ _ (by omega) (by omega), if_pos (by omega), if_pos (by omega), rdN, show (i : Int) + (k : Int) = ((i + k : Nat) : Int) by omega, rdN,
        u64_id (n := a.getD i 0) (by omega) (by omega), u64_id (n := b.getD k 0) (by omega) (by omega), u64_id (n := a.getD i 0 * b.getD k 0) (by omega) (by omega), u64_id (n := ys.getD (i + k) 0) (by omega) (by omega), u64_id (n := _ + ys.getD (i + k) 0) (by omega) (by omega), u64_id (n := c + _) (by omega) (by omega), ← hx, wrapZ _ (by omega) (by omega), Int.toNat_natCast]
      rfl
    · rw [Dg.getD_set_ne (by omega)]; exact hz j hj
    · rw [val_set (by omega), val_take_succ' b k, show i + (k + 1) = (i + k) + 1 by omega, Int.pow_succ]
      rw [Int.pow_add] at hinv
      have h1 : x = x % 4294967296 + 4294967296 * (x / 4294967296) := by omega
      have e : ((4294967296 : Nat) : Int) = 4294967296 := rfl
      rw [e, Int.pow_add]
      generalize (4294967296 : Int) ^ i = P at *
      generalize (4294967296 : Int) ^ k = Q at *
      generalize x % 4294967296 = lo at *
      generalize x / 4294967296 = hi' at *
      generalize ys.getD (i + k) 0 = yk at *
      generalize a.getD i 0 = ai at *
      generalize b.getD k 0 = bk at *
      generalize val 4294967296 ys = Vy at *
      generalize val 4294967296 (b.take k) = Vb at *
      clear ih next hp1 hp0
      grind
theorem mul_loop (a b : List Int) (ha : Dig 4294967296 a) (hb : Dig 4294967296 b) (hm : a.length + b.length ≤ 1073741824) (s : Nat) (hs : val 4294967296 a * val 4294967296 b = s) (d : Nat) :
    ∀ (i : Nat) (ys : List Int), i + d = a.length → ys.length = a.length + b.length → Dig 4294967296 ys → (∀ j, i + b.length ≤ j → ys.getD j 0 = 0) →
      val 4294967296 ys = val 4294967296 (a.take i) * val 4294967296 b →
      Ev (fun k => impl_magMul.l0 k b ys a (a.length : Int) (i : Int)) (D s) := by
  induction d with
  | zero =>
    intro i ys hd hy hdy hz hinv
    have hi : i = a.length := by omega
    subst hi
    rw [List.take_length, hs] at hinv
    refine Ev.step (f := fun k => (impl_magTrim.f k ys).bind fun t => some t) (fun k => ?_) (trimD hdy (by omega) hinv)
    simp only [impl_magMul.l0]
    rw [if_neg (by omega)]
  | succ d ih =>
    intro i ys hd hy hdy hz hinv
    have h1 := mul_inner a b ha hb hm i (by omega) (D s) (val 4294967296 (a.take i) * val 4294967296 b) (fun ys' h1 h2 h3 h4 => ih (i + 1) ys' (by omega) h1 h2 h3 (by
      rw [h4, val_take_succ' a i]
      have e : ((4294967296 : Nat) : Int) = 4294967296 := rfl
      rw [e]
      generalize (4294967296 : Int) ^ i = P
      grind)) b.length 0 ys 0 (by omega) hy hdy (by omega) (by omega) hz (by rw [hinv, List.take_zero, val_nil]; simp)
    refine Ev.step (f := fun n => impl_magMul.l1 n b ys (i : Int) (a.getD i 0) 0 a (a.length : Int) (i : Int) b (b.length : Int) 0) (fun n => ?_) h1
    simp only [impl_magMul.l0]
    rw [if_pos (by omega), if_pos (by omega), if_pos (by omega), rdN]
theorem mul (a b : Nat) (h : bl a + bl b ≤ 1073741823) : Ev (fun k => impl_magMul.f k (D a) (D b)) (D (a * b)) := by
  have h1 := D_len a
  have h2 := D_len b
  unfold impl_magMul.f
  rw [wrapZ _ (by omega) (by omega)]
  refine ifp (by omega) (ifp (by omega) ?_)
  have := mul_loop (D a) (D b) (D_dig a) (D_dig b) (by omega) (a * b) (by rw [D_val, D_val]; exact (Int.natCast_mul a b).symm) (D a).length 0 (List.replicate (((D a).length : Int) + ((D b).length : Int)).toNat 0) (by omega) (by simp <;> omega) (dig_replicate (by decide) _) (fun j _ => by simp [List.getD, List.getElem?_replicate]; split <;> rfl) (by simp [val, val_zeros])
  exact this
end Go.Proofs.Ythanlckjfghnkaa.Pn
end
section
namespace Go.Proofs.Ythanlckjfghnkaa.Po
open Go.RowKit Go.Proofs.YthanlckjfghnkaaW.PrintWords Go.Proofs.YthanlckjfghnkaaW.PrintMore Go.Proofs.Ythanlckjfghnkaa.PW Go.Proofs.Ythanlckjfghnkaa.Pc Go.Proofs.Ythanlckjfghnkaa.Pn Dg
set_option linter.unusedVariables false
set_option linter.unusedSimpArgs false
theorem tdiv32 (n : Nat) (h : n ≤ 1073741824) : IntKind.u64.wrap (Int.tdiv (n : Int) 32) = ((n / 32 : Nat) : Int) := by
  rw [Int.tdiv_eq_ediv_of_nonneg (by omega), u64_id (by omega) (by omega)]; rfl
theorem tmod32 (n : Nat) : Int.tmod (n : Int) 32 = ((n % 32 : Nat) : Int) := by
  rw [Int.tmod_eq_emod_of_nonneg (by omega)]; rfl
theorem pow_le32 {r : Nat} (h : r < 32) : 1 ≤ (2 : Int) ^ r ∧ (2 : Int) ^ r ≤ 2147483648 := by
  have h1 := Nat.pow_le_pow_right (n := 2) (by decide) (show r ≤ 31 by omega)
  have h2 := Nat.two_pow_pos r
  have e : ((2 : Int) ^ r) = ((2 ^ r : Nat) : Int) := by simp
  rw [e]; omega
theorem shl_id {x : Int} {r : Nat} (h0 : 0 ≤ x) (h1 : x < 4294967296) (hr : r < 32) : shl .u64 x (r : Int) = x * 2 ^ r ∧ 0 ≤ x * 2 ^ r ∧ x * 2 ^ r ≤ 4294967295 * 2147483648 := by
  have hp := pow_le32 hr
  have h2 : x * 2 ^ r ≤ 4294967295 * 2147483648 := Int.mul_le_mul (by omega) hp.2 (by omega) (by omega)
  have h3 : 0 ≤ x * 2 ^ r := Int.mul_nonneg h0 (by omega)
  refine ⟨?_, h3, h2⟩
  unfold shl
  rw [Int.toNat_natCast, Nat.min_eq_left (by show r ≤ 64; omega), u64_id h3 (by omega)]
theorem wraps_u32 (n : Int) (h₀ : 0 ≤ n) (h₁ : n < 2 ^ 32) : IntKind.u32.wrap n = n := by rw [IntKind.wrap_u32]; omega
theorem wraps_u64 (n : Int) (h₀ : 0 ≤ n) (h₁ : n < 2 ^ 64) : IntKind.u64.wrap n = n := by rw [IntKind.wrap_u64]; omega
theorem or_low {x y : Int} {r : Nat} (hr : r < 32) (hx0 : 0 ≤ x) (hx1 : x < 2 ^ r) (hy0 : 0 ≤ y) (hy1 : y < 4294967296) (hy : y % 2 ^ r = 0) : bits .or .u32 x y = x + y := by
  have hp := pow_le32 hr
  have hc : bits .or .u32 x y = bits .or .u32 y x := by
    obtain ⟨a, rfl⟩ := Int.eq_ofNat_of_zero_le hx0
    obtain ⟨b, rfl⟩ := Int.eq_ofNat_of_zero_le hy0
    have ha : a < 2 ^ 32 := by omega
    have hb : b < 2 ^ 32 := by omega
    rw [(bits_nat .u32 32 (by decide) wraps_u32 a b ha hb).2, (bits_nat .u32 32 (by decide) wraps_u32 b a hb ha).2, Nat.or_comm]
  rw [hc, bits_join .u32 32 (by decide) wraps_u32 r y x hy0 hy (by omega) hx0 hx1 (by omega)]
  omega
theorem low_mult {x : Int} {r : Nat} (hr : r < 32) : (x * 2 ^ r) % 4294967296 % 2 ^ r = 0 := by
  have e : (4294967296 : Int) = 2 ^ (32 - r) * 2 ^ r := by
    rw [← Int.pow_add, show 32 - r + r = 32 by omega]; rfl
  rw [e, Int.emod_emod_of_dvd _ (Int.dvd_mul_left _ _), Int.mul_emod_left]
theorem high_lt {x : Int} {r : Nat} (h0 : 0 ≤ x) (h1 : x < 4294967296) (hr : r < 32) : (x * 2 ^ r) / 4294967296 < 2 ^ r := by
  have hp := pow_le32 hr
  apply Int.ediv_lt_of_lt_mul (by decide)
  rw [Int.mul_comm]
  exact Int.mul_lt_mul_of_pos_left h1 (by omega)
theorem or_high {x y : Int} (hx0 : 0 ≤ x) (hx1 : x < 4294967296) (hy0 : 0 ≤ y) (hy1 : y < 4294967296) : bits .or .u64 x (y * 4294967296) = x + 4294967296 * y := by
  have hc : bits .or .u64 x (y * 4294967296) = bits .or .u64 (y * 4294967296) x := by
    obtain ⟨a, rfl⟩ := Int.eq_ofNat_of_zero_le hx0
    obtain ⟨b, rfl⟩ := Int.eq_ofNat_of_zero_le hy0
    have e : (b : Int) * 4294967296 = ((b * 4294967296 : Nat) : Int) := by simp
    have ha : a < 2 ^ 64 := by omega
    have hb : b * 4294967296 < 2 ^ 64 := by omega
    rw [e, (bits_nat .u64 64 (by decide) wraps_u64 a _ ha hb).2, (bits_nat .u64 64 (by decide) wraps_u64 _ a hb ha).2, Nat.or_comm]
  rw [hc, bits_join .u64 64 (by decide) wraps_u64 32 (y * 4294967296) x (by omega) (by omega) (by omega) hx0 (by omega) (by omega)]
  omega
theorem right_digit (X r : Nat) (hr : r < 32) : (X % 4294967296 + 4294967296 * (X / 4294967296 % 4294967296)) / 2 ^ r % 4294967296 = X / 2 ^ r % 4294967296 := by
  have h1 := Nat.mod_mul (a := 4294967296) (b := 4294967296) (x := X)
  rw [← h1]
  have e : (4294967296 * 4294967296 : Nat) = 2 ^ r * 2 ^ (64 - r) := by
    rw [← Nat.pow_add, show r + (64 - r) = 64 by omega]
  rw [e, Nat.mod_mul_right_div_self, Nat.mod_mod_of_dvd]
  rw [show (4294967296 : Nat) = 2 ^ 32 from rfl]
  exact Nat.pow_dvd_pow 2 (by omega)
theorem shr_id {x : Int} {r : Nat} (hr : r < 32) : shr .u64 x (r : Int) = x / 2 ^ r := by
  unfold shr
  rw [Int.toNat_natCast, Nat.min_eq_left (by show r ≤ 64; omega)]
theorem right_loop (m : List Int) (M n : Nat) (hm : m.length ≤ 1073741824) (hM : ∀ j, m.getD j 0 = ((M / 4294967296 ^ j % 4294967296 : Nat) : Int)) (hl : M < 4294967296 ^ m.length) (d : Nat) :
    ∀ (i : Nat) (ys : List Int), i + d = m.length → ys.length = m.length → Dig 4294967296 ys → (∀ j, j < i → ys.getD j 0 = ((M / 2 ^ (n % 32) / 4294967296 ^ j % 4294967296 : Nat) : Int)) →
      Ev (fun k => impl_magRight.l0 k m (n : Int) ys m (m.length : Int) (i : Int)) (D (M / 2 ^ (n % 32))) := by
  have hr : n % 32 < 32 := by omega
  have er := tmod32 n
  generalize n % 32 = r at *
  induction d with
  | zero =>
    intro i ys hd hy hdy hdig
    have hi : i = m.length := by omega
    subst hi
    have hv := val_digits (by decide) ys (M / 2 ^ r) (fun j hj => hdig j (by omega))
    have hlt : M / 2 ^ r < 4294967296 ^ ys.length := by rw [hy]; exact Nat.lt_of_le_of_lt (Nat.div_le_self _ _) hl
    rw [Nat.mod_eq_of_lt hlt] at hv
    refine Ev.step (f := fun k => (impl_magTrim.f k ys).bind fun t => some t) (fun k => ?_) (trimD hdy (by omega) hv)
    simp only [impl_magRight.l0]
    rw [if_neg (by omega)]
  | succ d ih =>
    intro i ys hd hy hdy hdig
    have hmi := hM i
    have hmj := hM (i + 1)
    obtain ⟨X, hX⟩ : ∃ X, X = M / 4294967296 ^ i := ⟨_, rfl⟩
    have hX2 : M / 4294967296 ^ (i + 1) = X / 4294967296 := by rw [hX, Nat.pow_succ, Nat.div_div_eq_div_mul]
    rw [← hX] at hmi
    rw [hX2] at hmj
    have hd0 := right_digit X r hr
    have hX3 : M / 2 ^ r / 4294967296 ^ i = X / 2 ^ r := by rw [hX, Nat.div_div_eq_div_mul, Nat.div_div_eq_div_mul, Nat.mul_comm]
    have hpw : ((2 : Int) ^ r) = ((2 ^ r : Nat) : Int) := by simp
    obtain ⟨v, hv⟩ : ∃ v : Nat, v = X / 2 ^ r % 4294967296 := ⟨_, rfl⟩
    refine Ev.step (f := fun k => impl_magRight.l0 k m (n : Int) (ys.set i (v : Int)) m (m.length : Int) ((i + 1 : Nat) : Int)) (fun k => ?_)
      (ih (i + 1) _ (by omega) (by simpa using hy) (hdy.set _ (by omega) (by omega)) (fun j hj => ?_))
    · simp only [impl_magRight.l0]
      rw [if_pos (by omega), if_pos (by omega), if_pos (by omega), er, rdN, wrapZ _ (by omega) (by omega), hmi]
      by_cases hj : i + 1 < m.length
      · rw [if_pos (by omega), if_pos (by omega), if_pos (by omega), if_pos (by omega), show (i : Int) + 1 = ((i + 1 : Nat) : Int) by omega, rdN, hmj, u64_id (n := ((X % 4294967296 : Nat) : Int)) (by omega) (by omega),
          u64_id (n := ((X / 4294967296 % 4294967296 : Nat) : Int)) (by omega) (by omega), u64_id (n := _ * 4294967296) (by omega) (by omega), or_high (by omega) (by omega) (by omega) (by omega), shr_id hr, hpw, Int.toNat_natCast]
        rw [hv, ← hd0]
        rfl
      · have h0 : m.getD (i + 1) 0 = 0 := getD_ge (by omega)
        rw [hmj] at h0
        have h1 : X / 4294967296 % 4294967296 = 0 := by omega
        rw [h1, Nat.mul_zero, Nat.add_zero] at hd0
        rw [if_neg (by omega), if_pos (by omega), if_pos (by omega), u64_id (n := ((X % 4294967296 : Nat) : Int)) (by omega) (by omega), shr_id hr, hpw, Int.toNat_natCast]
        rw [hv, ← hd0]
        rfl
    · by_cases hji : j = i
      · subst hji
        rw [Dg.getD_set_eq (by omega), hX3, hv]
      · rw [Dg.getD_set_ne (by omega)]
        exact hdig j (by omega)
theorem right (a n : Nat) (ha : bl a ≤ 536870912) (hn : n ≤ 536870912) : Ev (fun k => impl_magRight.f k (D a) (n : Int)) (D (a / 2 ^ n)) := by
  have h1 := D_len a
  have hpow : (2 : Nat) ^ n = 4294967296 ^ (n / 32) * 2 ^ (n % 32) := by
    rw [show (4294967296 : Nat) = 2 ^ 32 from rfl, ← Nat.pow_mul, ← Nat.pow_add]
    congr 1
    omega
  unfold impl_magRight.f
  rw [tdiv32 n (by omega), u64_id (n := ((D a).length : Int)) (by omega) (by omega)]
  by_cases hq : (D a).length ≤ n / 32
  · have hlt : a < 4294967296 ^ (D a).length := lt_of_dg_length _
    have h2 := Nat.pow_le_pow_right (n := 4294967296) (by decide) hq
    have h3 : a / 2 ^ n = 0 := by
      rw [hpow, ← Nat.div_div_eq_div_mul, Nat.div_eq_of_lt (Nat.lt_of_lt_of_le hlt h2), Nat.zero_div]
    rw [h3, D_zero]
    exact ifp (by omega) (ev_of fun _ => rfl)
  · refine ifn (by omega) (ifp (by omega) (ifp (by omega) (ifp (by omega) ?_)))
    simp only [Int.toNat_natCast]
    have hlen : ((D a).drop (n / 32)).length = (D a).length - n / 32 := List.length_drop
    refine ifp (by omega) ?_
    obtain ⟨M, hM⟩ : ∃ M, M = a / 4294967296 ^ (n / 32) := ⟨_, rfl⟩
    have hfin : a / 2 ^ n = M / 2 ^ (n % 32) := by rw [hpow, hM, Nat.div_div_eq_div_mul]
    rw [hfin]
    have hlt : a < 4294967296 ^ (D a).length := lt_of_dg_length _
    exact right_loop ((D a).drop (n / 32)) M n (by omega) (fun j => by
      have e : ((D a).drop (n / 32)).getD j 0 = (D a).getD (n / 32 + j) 0 := by simp [List.getD, List.getElem?_drop]
      rw [e, D_getD, hM, Nat.div_div_eq_div_mul, ← Nat.pow_add]) (by
      rw [hlen, hM]
      apply Nat.div_lt_of_lt_mul
      rw [← Nat.pow_add, show n / 32 + ((D a).length - n / 32) = (D a).length by omega]
      exact hlt) ((D a).drop (n / 32)).length 0 _ (by omega) (by simp) (dig_replicate (by decide) _) (fun j hj => by omega)
end Go.Proofs.Ythanlckjfghnkaa.Po
end
section
namespace Go.Proofs.Ythanlckjfghnkaa.PW
open Go.RowKit Go.Proofs.YthanlckjfghnkaaW.PrintWords Go.Proofs.YthanlckjfghnkaaW.PrintLast Go.Proofs.YthanlckjfghnkaaW.PrintMore
attribute [local go_sem] max2_int min2_int max_two min_two max_three min_three max_four min_four   -- for this text's walks alone
set_option linter.unusedVariables false
set_option linter.unusedSimpArgs false
def laws_szInt64S.f (l0 : List Int) (a1 : Int) : Option (Int) := if (wrap64 (a1 - (l0.length : Int))) < 0 then (some (-1)) else (some (wrap64 (a1 - (l0.length : Int))))
end Go.Proofs.Ythanlckjfghnkaa.PW
end
section
namespace Go.Proofs.Ythanlckjfghnkaa.PW
open Go.RowKit Go.Proofs.YthanlckjfghnkaaW.PrintWords Go.Proofs.YthanlckjfghnkaaW.PrintLast Go.Proofs.YthanlckjfghnkaaW.PrintMore
attribute [local go_sem] max2_int min2_int max_two min_two max_three min_three max_four min_four   -- for this text's walks alone
set_option linter.unusedVariables false
set_option linter.unusedSimpArgs false
def laws_szWhole.f (a0_0 : Int) (l0_1 : List Int) (a1 : Int) : Option (Int) := (laws_szInt64S.f l0_1 a1).bind fun t102 => (if t102 < 0 then (some (-1)) else (some t102))
end Go.Proofs.Ythanlckjfghnkaa.PW
end
section
namespace Go.Proofs.Ythanlckjfghnkaa.PW
open Go.RowKit Go.Proofs.YthanlckjfghnkaaW.PrintWords Go.Proofs.YthanlckjfghnkaaW.PrintLast Go.Proofs.YthanlckjfghnkaaW.PrintMore
attribute [local go_sem] max2_int min2_int max_two min_two max_three min_three max_four min_four   -- for this text's walks alone
set_option linter.unusedVariables false
set_option linter.unusedSimpArgs false
def laws_toInt64S.l0 : Nat → List Int → List Int → Int → Option (List Int)
  | 0, _, _, _ => none
  | k + 1, x0, x3, x4 => if x4 < (x0.length : Int) then (if 0 ≤ x4 then (if x4 < (x3.length : Int) then (laws_toInt64S.l0 k x0 (x3.set (x4 : Int).toNat (rd x0 x4)) (wrap64 (x4 + 1))) else (none)) else (none)) else (some x3)
def laws_toInt64S.f (k : Nat) (l0 : List Int) : Option (List Int) := if 0 ≤ (l0.length : Int) then (if ((l0.length : Int) : Int).toNat ≤ 35184372088832 then (laws_toInt64S.l0 k l0 (List.replicate ((l0.length : Int) : Int).toNat 0) 0) else (none)) else (none)
theorem laws_toInt64S.mono_l : ∀ k, (∀ y0 y1 y2, LeO (laws_toInt64S.l0 k y0 y1 y2) (laws_toInt64S.l0 (k + 1) y0 y1 y2))
  | 0 => fun _ _ _ r h => by simp [laws_toInt64S.l0] at h
  | k + 1 => by
    have ih0 := laws_toInt64S.mono_l k
    · intro y0 y1 y2
      unfold laws_toInt64S.l0
      repeat' first
      | (with_reducible exact ih0 _ _ _)
      | (with_reducible exact LeO.refl _)
      | (with_reducible exact LeO.none _)
      | (with_reducible refine LeO.ite ?_ ?_)
      | (with_reducible refine LeO.bind ?_ (fun _ => ?_))
      | exact ih0 _ _ _
      | exact LeO.none _
      | refine LeO.ite ?_ ?_
      | refine LeO.bind ?_ (fun _ => ?_)
theorem laws_toInt64S.mono : ∀ a0 k, LeO (laws_toInt64S.f k a0) (laws_toInt64S.f (k + 1) a0) := by
  intro a0 k
  have ih0 := laws_toInt64S.mono_l k
  unfold laws_toInt64S.f
  repeat' first
      | (with_reducible exact ih0 _ _ _)
      | (with_reducible exact LeO.refl _)
      | (with_reducible exact LeO.none _)
      | (with_reducible refine LeO.ite ?_ ?_)
      | (with_reducible refine LeO.bind ?_ (fun _ => ?_))
      | exact ih0 _ _ _
      | exact LeO.none _
      | refine LeO.ite ?_ ?_
      | refine LeO.bind ?_ (fun _ => ?_)
end Go.Proofs.Ythanlckjfghnkaa.PW
end
section
namespace Go.Proofs.Ythanlckjfghnkaa.PW
open Go.RowKit Go.Proofs.YthanlckjfghnkaaW.PrintWords Go.Proofs.YthanlckjfghnkaaW.PrintLast Go.Proofs.YthanlckjfghnkaaW.PrintMore
attribute [local go_sem] max2_int min2_int max_two min_two max_three min_three max_four min_four   -- for this text's walks alone
set_option linter.unusedVariables false
set_option linter.unusedSimpArgs false
def laws_toWhole.f (k : Nat) (a0_0 : Int) (l0_1 : List Int) : Option (Int × List Int) := (laws_toInt64S.f k l0_1).bind fun t277 => (some (a0_0, t277))
theorem laws_toWhole.mono : ∀ a0 a1 k, LeO (laws_toWhole.f k a0 a1) (laws_toWhole.f (k + 1) a0 a1) := by
  intro a0 a1 k
  unfold laws_toWhole.f
  repeat' first
      | (with_reducible exact laws_toInt64S.mono _ _)
      | (with_reducible exact LeO.refl _)
      | (with_reducible exact LeO.none _)
      | (with_reducible refine LeO.ite ?_ ?_)
      | (with_reducible refine LeO.bind ?_ (fun _ => ?_))
      | exact laws_toInt64S.mono _ _
      | exact LeO.none _
      | refine LeO.ite ?_ ?_
      | refine LeO.bind ?_ (fun _ => ?_)
end Go.Proofs.Ythanlckjfghnkaa.PW
end
section
namespace Go.Proofs.Ythanlckjfghnkaa.PW
open Go.RowKit Go.Proofs.YthanlckjfghnkaaW.PrintWords Go.Proofs.YthanlckjfghnkaaW.PrintLast Go.Proofs.YthanlckjfghnkaaW.PrintMore
attribute [local go_sem] max2_int min2_int max_two min_two max_three min_three max_four min_four   -- for this text's walks alone
set_option linter.unusedVariables false
set_option linter.unusedSimpArgs false
mutual
def impl_IsWhole.j0 : Nat → Int → Bool → Int → List Int → Option (Bool)
  | 0, _, _, _, _ => none
  | k + 1, x3, x28, x281000, x281001 => if x28 = true then (some false) else (impl_IsWhole.l0 k x3 x281001 (x281001.length : Int) 0 x281000 x281001)
def impl_IsWhole.l0 : Nat → Int → List Int → Int → Int → Int → List Int → Option (Bool)
  | 0, _, _, _, _, _, _ => none
  | k + 1, x3, x30, x31, x32, x281000, x281001 => if x32 < x31 then (if 0 ≤ x32 then (if x32 < (x30.length : Int) then (if (rd x30 x32) < 0 then (some false) else (if (rd x30 x32) > 16777215 then (some false) else (impl_IsWhole.l0 k x3 x30 x31 (wrap64 (x32 + 1)) x281000 x281001))) else (none)) else (none)) else (if x3 = 0 then (some true) else (if 0 ≤ (wrap64 (x3 - 1)) then (if (wrap64 (x3 - 1)) < (x281001.length : Int) then (some ((rd x281001 (wrap64 (x3 - 1))) != 0)) else (none)) else (none)))
end
def impl_IsWhole.f (k : Nat) (a0_0 : Int) (l0_1 : List Int) : Option (Bool) := if (l0_1.length : Int) > 100 then (impl_IsWhole.j0 k (l0_1.length : Int) true a0_0 l0_1) else (if a0_0 < (-1) then (impl_IsWhole.j0 k (l0_1.length : Int) true a0_0 l0_1) else (if a0_0 > 1 then (impl_IsWhole.j0 k (l0_1.length : Int) true a0_0 l0_1) else (impl_IsWhole.j0 k (l0_1.length : Int) ((a0_0 == 0) != ((l0_1.length : Int) == 0)) a0_0 l0_1)))
theorem impl_IsWhole.mono_l : ∀ k, (∀ y0 y1 y2 y3, LeO (impl_IsWhole.j0 k y0 y1 y2 y3) (impl_IsWhole.j0 (k + 1) y0 y1 y2 y3)) ∧ (∀ y0 y1 y2 y3 y4 y5, LeO (impl_IsWhole.l0 k y0 y1 y2 y3 y4 y5) (impl_IsWhole.l0 (k + 1) y0 y1 y2 y3 y4 y5))
  | 0 => ⟨fun _ _ _ _ r h => by simp [impl_IsWhole.j0] at h, fun _ _ _ _ _ _ r h => by simp [impl_IsWhole.l0] at h⟩
  | k + 1 => by
    obtain ⟨ih0, ih1⟩ := impl_IsWhole.mono_l k
    refine ⟨?_, ?_⟩
    · intro y0 y1 y2 y3
      unfold impl_IsWhole.j0
      repeat' first
      | (with_reducible exact ih0 _ _ _ _)
      | (with_reducible exact ih1 _ _ _ _ _ _)
      | (with_reducible exact LeO.refl _)
      | (with_reducible exact LeO.none _)
      | (with_reducible refine LeO.ite ?_ ?_)
      | (with_reducible refine LeO.bind ?_ (fun _ => ?_))
      | exact ih0 _ _ _ _
      | exact ih1 _ _ _ _ _ _
      | exact LeO.none _
      | refine LeO.ite ?_ ?_
      | refine LeO.bind ?_ (fun _ => ?_)
    · intro y0 y1 y2 y3 y4 y5
      unfold impl_IsWhole.l0
      repeat' first
      | (with_reducible exact ih0 _ _ _ _)
      | (with_reducible exact ih1 _ _ _ _ _ _)
      | (with_reducible exact LeO.refl _)
      | (with_reducible exact LeO.none _)
      | (with_reducible refine LeO.ite ?_ ?_)
      | (with_reducible refine LeO.bind ?_ (fun _ => ?_))
      | exact ih0 _ _ _ _
      | exact ih1 _ _ _ _ _ _
      | exact LeO.none _
      | refine LeO.ite ?_ ?_
      | refine LeO.bind ?_ (fun _ => ?_)
theorem impl_IsWhole.mono : ∀ a0 a1 k, LeO (impl_IsWhole.f k a0 a1) (impl_IsWhole.f (k + 1) a0 a1) := by
  intro a0 a1 k
  obtain ⟨ih0, ih1⟩ := impl_IsWhole.mono_l k
  unfold impl_IsWhole.f
  repeat' first
      | (with_reducible exact ih0 _ _ _ _)
      | (with_reducible exact ih1 _ _ _ _ _ _)
      | (with_reducible exact LeO.refl _)
      | (with_reducible exact LeO.none _)
      | (with_reducible refine LeO.ite ?_ ?_)
      | (with_reducible refine LeO.bind ?_ (fun _ => ?_))
      | exact ih0 _ _ _ _
      | exact ih1 _ _ _ _ _ _
      | exact LeO.none _
      | refine LeO.ite ?_ ?_
      | refine LeO.bind ?_ (fun _ => ?_)
end Go.Proofs.Ythanlckjfghnkaa.PW
end
section
namespace Go.Proofs.Ythanlckjfghnkaa.Pb
open Go.RowKit Go.Proofs.YthanlckjfghnkaaW.PrintWords Go.Proofs.Ythanlckjfghnkaa.PW Go.Proofs.Ythanlckjfghnkaa.Pc
set_option linter.unusedVariables false
set_option linter.unusedSimpArgs false
theorem eqInt64S_loop (l : List Int) (hl : l.length ≤ 9223372036854775807) (d : Nat) : ∀ (i : Nat), i + d = l.length → Ev (fun k => laws_eqInt64S.l0 k l l (i : Int)) true := by
  induction d with
  | zero =>
    intro i hd
    refine Ev.step (f := fun k => some true) (fun k => ?_) (ev_of fun _ => rfl)
    simp only [laws_eqInt64S.l0]
    rw [if_neg (by omega)]
  | succ d ih =>
    intro i hd
    refine Ev.step (f := fun k => laws_eqInt64S.l0 k l l ((i + 1 : Nat) : Int)) (fun k => ?_) (ih (i + 1) (by omega))
    simp only [laws_eqInt64S.l0]
    rw [if_pos (by omega), if_pos (by omega), if_pos (by omega), if_pos trivial, wrapZ _ (by omega) (by omega)]
    rfl
theorem eqWhole_self (s : Int) (l : List Int) (hl : l.length ≤ 9223372036854775807) : Ev (fun k => laws_eqWhole.f k s l s l) true := by
  unfold laws_eqWhole.f laws_eqInt64S.f
  exact ifp rfl (Ev.bind (f := fun _ (t : Bool) => if t = true then some true else some false) (ifp rfl (eqInt64S_loop l hl l.length 0 (by omega))) (ev_of fun _ => rfl))
def digB (l : List Int) : Bool := l.all fun x => decide (0 ≤ x) && decide (x ≤ 16777215)
def isW (s : Int) (l : List Int) : Bool :=
  digB l && (if l.length = 0 then s == 0 else decide (l.length ≤ 100) && (l.getD (l.length - 1) 0 != 0) && (s == 1 || s == -1))
theorem l02Is_loop (s : Int) (l : List Int) (hl : l.length ≤ 9223372036854775807) (d : Nat) : ∀ (i : Nat), i + d = l.length →
    Ev (fun k => spec_l02Is.l0 k (l.length : Int) (i : Int) s l) (digB (l.drop i) && (if l.length = 0 then s == 0 else decide (l.length ≤ 100) && (l.getD (l.length - 1) 0 != 0) && (s == 1 || s == -1))) := by
  induction d with
  | zero =>
    intro i hd
    have hi : i = l.length := by omega
    subst hi
    refine Ev.step (f := fun k => some _) (fun k => ?_) (ev_of fun _ => rfl)
    simp only [spec_l02Is.l0]
    rw [if_neg (by omega), List.drop_length]
    simp only [digB, List.all_nil, Bool.true_and]
    by_cases h0 : l.length = 0
    · rw [if_pos (by omega), if_pos h0]
    · rw [if_neg (by omega), if_neg h0]
      by_cases h1 : l.length ≤ 100
      · rw [if_pos (by omega), wrapZ _ (by omega) (by omega), if_pos (by omega), if_pos (by omega), show ((l.length : Int) - 1) = ((l.length - 1 : Nat) : Int) by omega, rdN]
        simp only [h1, decide_true, Bool.true_and]
        by_cases h2 : l.getD (l.length - 1) 0 = 0
        · rw [if_pos h2, h2]; simp
        · rw [if_neg h2]
          have h4 : (l.getD (l.length - 1) 0 != 0) = true := by rw [bne_iff_ne]; exact h2
          rw [h4]
          by_cases h3 : s = 1
          · rw [if_pos h3]; simp [h3]
          · rw [if_neg h3]; simp [h3]
      · rw [if_neg (by omega)]; simp [h1]
  | succ d ih =>
    intro i hd
    have hlt : i < l.length := by omega
    have hdrop : l.drop i = l.getD i 0 :: l.drop (i + 1) := by rw [List.drop_eq_getElem_cons hlt, Dg.getD_lt hlt]
    by_cases hx : 0 ≤ l.getD i 0 ∧ l.getD i 0 ≤ 16777215
    · have e : digB (l.drop i) = digB (l.drop (i + 1)) := by rw [hdrop]; simp only [digB, List.all_cons, hx.1, hx.2, decide_true, Bool.true_and]
      rw [e]
      refine Ev.step (f := fun k => spec_l02Is.l0 k (l.length : Int) ((i + 1 : Nat) : Int) s l) (fun k => ?_) (ih (i + 1) (by omega))
      simp only [spec_l02Is.l0]
      rw [if_pos (by omega), if_pos (by omega), if_pos (by omega), rdN]
      unfold spec_l01In.f
      rw [if_pos hx.1]
      simp only [Option.bind_some, hx.2, decide_true, if_true]
      rw [wrapZ _ (by omega) (by omega)]
      rfl
    · have e : digB (l.drop i) = false := by rw [hdrop]; simp only [digB, List.all_cons, Bool.and_eq_false_iff, decide_eq_false_iff_not]; omega
      rw [e, Bool.false_and]
      refine Ev.step (f := fun k => some false) (fun k => ?_) (ev_of fun _ => rfl)
      simp only [spec_l02Is.l0]
      rw [if_pos (by omega), if_pos (by omega), if_pos (by omega), rdN]
      unfold spec_l01In.f
      by_cases h1 : 0 ≤ l.getD i 0
      · rw [if_pos h1]
        have h2 : ¬ l.getD i 0 ≤ 16777215 := fun h => hx ⟨h1, h⟩
        simp only [h2, decide_false, Option.bind_some]; rfl
      · rw [if_neg h1]; rfl
theorem l02Is (s : Int) (l : List Int) (hl : l.length ≤ 9223372036854775807) : Ev (fun k => spec_l02Is.f k s l) (isW s l) := by
  have := l02Is_loop s l hl l.length 0 (by omega)
  rw [List.drop_zero] at this
  exact this
end Go.Proofs.Ythanlckjfghnkaa.Pb
end
section
namespace Go.Proofs.Ythanlckjfghnkaa.Pw
open Go.RowKit Go.Proofs.YthanlckjfghnkaaW.PrintWords Go.Proofs.Ythanlckjfghnkaa.Pb Go.Proofs.Ythanlckjfghnkaa.Pc Go.Proofs.Ythanlckjfghnkaa.Pm Dg
set_option linter.unusedVariables false
set_option linter.unusedSimpArgs false
theorem digB_iff {l : List Int} : digB l = true ↔ Dig 16777216 l := by
  unfold digB Dig
  rw [List.all_eq_true]
  constructor
  · intro h d hd
    have := h d hd
    simp at this
    omega
  · intro h d hd
    have := h d hd
    simp
    omega
theorem isW_spec {s : Int} {l : List Int} (h : isW s l = true) : Dig 16777216 l ∧ l.length ≤ 100 ∧ Top l ∧ (l = [] ∧ s = 0 ∨ l ≠ [] ∧ (s = 1 ∨ s = -1)) := by
  unfold isW at h
  rw [Bool.and_eq_true] at h
  refine ⟨digB_iff.1 h.1, ?_⟩
  have h2 := h.2
  by_cases h0 : l.length = 0
  · rw [if_pos h0] at h2
    have hl : l = [] := List.length_eq_zero_iff.1 h0
    refine ⟨by omega, fun hne => absurd hl hne, .inl ⟨hl, by simpa using h2⟩⟩
  · rw [if_neg h0, Bool.and_eq_true, Bool.and_eq_true] at h2
    obtain ⟨⟨h3, h4⟩, h5⟩ := h2
    have hl : l ≠ [] := by rintro rfl; simp at h0
    refine ⟨by simpa using h3, top_iff.2 (.inr (by rw [bne_iff_ne] at h4; exact h4)), .inr ⟨hl, ?_⟩⟩
    rw [Bool.or_eq_true, beq_iff_eq, beq_iff_eq] at h5
    exact h5
theorem isW_mk {s : Int} {l : List Int} (hd : Dig 16777216 l) (hl : l.length ≤ 100) (ht : Top l) (hs : l = [] ∧ s = 0 ∨ l ≠ [] ∧ (s = 1 ∨ s = -1)) : isW s l = true := by
  unfold isW
  rw [Bool.and_eq_true]
  refine ⟨digB_iff.2 hd, ?_⟩
  rcases hs with ⟨rfl, rfl⟩ | ⟨hne, hs⟩
  · rfl
  · have h0 : ¬ l.length = 0 := fun h => hne (List.length_eq_zero_iff.1 h)
    rw [if_neg h0, Bool.and_eq_true, Bool.and_eq_true]
    refine ⟨⟨by simpa using hl, ?_⟩, ?_⟩
    · rw [bne_iff_ne]
      rcases top_iff.1 ht with h | h
      · exact absurd h hne
      · exact h
    · rw [Bool.or_eq_true, beq_iff_eq, beq_iff_eq]; exact hs
theorem isW_of (z : Int) : isW (sgn z) (L z.natAbs) = decide (bl z.natAbs ≤ 2400) := by
  by_cases h : bl z.natAbs ≤ 2400
  · rw [decide_eq_true h]
    refine isW_mk (L_dig _) ((L_len_iff _ 100).2 (by omega)) (L_top _) ?_
    by_cases h0 : z = 0
    · subst h0; exact .inl ⟨L_zero, rfl⟩
    · refine .inr ⟨fun e => h0 (by have := L_nil.1 e; omega), ?_⟩
      unfold sgn
      by_cases hn : z < 0
      · rw [if_pos hn]; simp
      · rw [if_neg hn, if_neg h0]; simp
  · rw [decide_eq_false h]
    cases hw : isW (sgn z) (L z.natAbs) with
    | false => rfl
    | true =>
      exfalso
      have := (isW_spec hw).2.1
      exact h (by have := (L_len_iff z.natAbs 100).1 this; omega)
def fit (z : Int) : Int × List Int × Int := if bl z.natAbs ≤ 2400 then (sgn z, L z.natAbs, 0) else (0, [], 3)
end Go.Proofs.Ythanlckjfghnkaa.Pw
end
section
set_option linter.unusedVariables false
set_option linter.unusedSimpArgs false
namespace Go.Proofs.Ythanlckjfghnkaa.Dy
open Go.RowKit Go.Proofs.YthanlckjfghnkaaW.PrintWords Go.Proofs.YthanlckjfghnkaaW.PrintMore Go.Proofs.Ythanlckjfghnkaa.PW Go.Proofs.Ythanlckjfghnkaa.Pc Go.Proofs.Ythanlckjfghnkaa.Pn Go.Proofs.Ythanlckjfghnkaa.Po Dg Go.Proofs.Ythanlckjfghnkaa.Dw Go.Proofs.Ythanlckjfghnkaa.Dx
structure Lf (a : List Int) (n i : Nat) (ys : List Int) : Prop where
  len : ys.length = a.length + 1
  dig : Dig 4294967296 ys
  z : ∀ j, i < j → ys.getD j 0 = 0
  lt : ys.getD i 0 < 2 ^ n
  inv : val 4294967296 ys = val 4294967296 (a.take i) * 2 ^ n
theorem Lf.step {a ys : List Int} {n i : Nat} {w : Int} (h : Lf a n i ys) (ha : Dig 4294967296 a) (hn : n < 32) (hi : i < a.length) (hw : w = a.getD i 0 * 2 ^ n) :
    Lf a n (i + 1) ((ys.set i (ys.getD i 0 + w % 4294967296)).set (i + 1) (w / 4294967296)) ∧ shl .u64 (a.getD i 0) (n : Int) = w ∧ bits .or .u32 (ys.getD i 0) (w % 4294967296) = ys.getD i 0 + w % 4294967296 ∧
    0 ≤ w ∧ w < 18446744073709551616 ∧ 0 ≤ ys.getD i 0 + w % 4294967296 ∧ ys.getD i 0 + w % 4294967296 < 4294967296 ∧ 0 ≤ w / 4294967296 ∧ w / 4294967296 < 4294967296 := by
  have hai := ha.all0 (by decide) i
  have hyi := h.dig.all0 (by decide) i
  have hz1 := h.z (i + 1) (by omega)
  have hlen := h.len
  rw [castB] at hai hyi
  obtain ⟨hs1, hs2, hs3⟩ := shl_id hai.1 hai.2 hn
  have hlow := low_mult (x := a.getD i 0) hn
  have hhigh := high_lt hai.1 hai.2 hn
  rw [← hw] at hs1 hs2 hs3 hlow hhigh
  have hor := or_low hn hyi.1 h.lt (y := w % 4294967296) (by omega) (by omega) hlow
  have hp := pow_le32 hn
  have hsum : ys.getD i 0 + w % 4294967296 < 4294967296 := by
    have h1 : w % 4294967296 ≤ 4294967296 - 2 ^ n := by
      have e : (4294967296 : Int) % 2 ^ n = 0 := by
        have : (4294967296 : Int) = 2 ^ (32 - n) * 2 ^ n := by rw [← Int.pow_add, show 32 - n + n = 32 by omega]; rfl
        rw [this]; simp
      have h2 : (4294967296 - w % 4294967296) % 2 ^ n = 0 := by
        rw [Int.sub_emod, e, hlow]; simp
      have h3 : 0 < 4294967296 - w % 4294967296 := by omega
      have h4 := Int.emod_add_mul_ediv (4294967296 - w % 4294967296) (2 ^ n)
      rw [h2, Int.zero_add] at h4
      have h5 : 0 < (4294967296 - w % 4294967296) / 2 ^ n := by
        rcases Int.lt_or_le 0 ((4294967296 - w % 4294967296) / 2 ^ n) with h | h
        · exact h
        · have := Int.mul_nonneg (show (0 : Int) ≤ 2 ^ n by omega) (show 0 ≤ -((4294967296 - w % 4294967296) / 2 ^ n) by omega)
          rw [Int.mul_neg] at this
          omega
      have h6 : (2 : Int) ^ n * 1 ≤ 2 ^ n * ((4294967296 - w % 4294967296) / 2 ^ n) := Int.mul_le_mul_of_nonneg_left (by omega) (by omega)
      omega
    have := h.lt
    omega
  refine ⟨⟨by simpa using hlen, (h.dig.set _ (by omega) (by omega)).set _ (by omega) (by omega), fun j hj => ?_, ?_, ?_⟩, hs1, hor, hs2, by omega, by omega, hsum, by omega, by omega⟩
  · rw [Dg.getD_set_ne (by omega), Dg.getD_set_ne (by omega)]; exact h.z j (by omega)
  · rw [Dg.getD_set_eq (by simp <;> omega)]; exact hhigh
  · rw [val_set (by simp <;> omega), val_set (by omega), Dg.getD_set_ne (by omega), hz1, val_take_succ' a i, h.inv, Int.pow_succ, castB]
    have h1 : w = w % 4294967296 + 4294967296 * (w / 4294967296) := by omega
    generalize (4294967296 : Int) ^ i = P at *
    generalize w % 4294967296 = lo at *
    generalize w / 4294967296 = hi at *
    generalize a.getD i 0 = ai at *
    generalize (2 : Int) ^ n = R at *
    generalize val 4294967296 (List.take i a) = Va at *
    generalize ys.getD i 0 = y0 at *
    clear h hlow hhigh hsum hor hs1 hs2 hs3
    have h2 : ai * R = lo + 4294967296 * hi := by rw [← hw]; exact h1
    have h3 : P * (ai * R) = P * (lo + 4294967296 * hi) := by rw [h2]
    clear hw h1 h2 hp hai hyi
    grind
theorem Lf.done {a n : Nat} {ys : List Int} (h : Lf (D a) n (D a).length ys) : (val 4294967296 ys).toNat = a * 2 ^ n := by
  have := h.inv
  rw [List.take_length, D_val] at this
  rw [this]
  have e : ((a : Int) * 2 ^ n) = ((a * 2 ^ n : Nat) : Int) := by simp
  rw [e, Int.toNat_natCast]
end Go.Proofs.Ythanlckjfghnkaa.Dy
end
section
namespace Go.Proofs.Ythanlckjfghnkaa.PW
open Go.RowKit Go.Proofs.YthanlckjfghnkaaW.PrintWords Go.Proofs.YthanlckjfghnkaaW.PrintLast Go.Proofs.YthanlckjfghnkaaW.PrintMore
attribute [local go_sem] max2_int min2_int max_two min_two max_three min_three max_four min_four   -- for this text's walks alone
set_option linter.unusedVariables false
set_option linter.unusedSimpArgs false
mutual
def impl_isNumeral.j0 : Nat → ByteArray → Bool → Option (Bool)
  | 0, _, _ => none
  | k + 1, x0, x11 => if x11 = true then (if 1 ≤ (x0.size : Int) then (if (x0.extract 1 x0.size).toList = ([48] : List UInt8) then (some false) else (impl_isNumeral.j1 k (x0.extract 1 x0.size))) else (none)) else (impl_isNumeral.j1 k x0)
def impl_isNumeral.j1 : Nat → ByteArray → Option (Bool)
  | 0, _ => none
  | k + 1, x0 => if x0.toList = ([] : List UInt8) then (impl_isNumeral.j2 k x0 true) else (if 0 < (x0.size : Int) then (if (bt x0 0) = 48 then (impl_isNumeral.j2 k x0 (decide ((x0.size : Int) > 1))) else (impl_isNumeral.j2 k x0 false)) else (none))
def impl_isNumeral.j2 : Nat → ByteArray → Bool → Option (Bool)
  | 0, _, _ => none
  | k + 1, x0, x27 => if x27 = true then (some false) else (impl_isNumeral.l0 k x0 (x0.size : Int) 0)
def impl_isNumeral.l0 : Nat → ByteArray → Int → Int → Option (Bool)
  | 0, _, _, _ => none
  | k + 1, x0, x29, x30 => if x30 < x29 then (if 0 ≤ x30 then (if x30 < (x0.size : Int) then (if (bt x0 x30) < 48 then (some false) else (if (bt x0 x30) > 57 then (some false) else (impl_isNumeral.l0 k x0 x29 (wrap64 (x30 + 1))))) else (none)) else (none)) else (some true)
end
def impl_isNumeral.f (k : Nat) (a0 : ByteArray) : Option (Bool) := if (a0.size : Int) > 0 then (if 0 < (a0.size : Int) then (impl_isNumeral.j0 k a0 ((bt a0 0) == 45)) else (none)) else (impl_isNumeral.j0 k a0 false)
theorem impl_isNumeral.mono_l : ∀ k, (∀ y0 y1, LeO (impl_isNumeral.j0 k y0 y1) (impl_isNumeral.j0 (k + 1) y0 y1)) ∧ (∀ y0, LeO (impl_isNumeral.j1 k y0) (impl_isNumeral.j1 (k + 1) y0)) ∧ (∀ y0 y1, LeO (impl_isNumeral.j2 k y0 y1) (impl_isNumeral.j2 (k + 1) y0 y1)) ∧ (∀ y0 y1 y2, LeO (impl_isNumeral.l0 k y0 y1 y2) (impl_isNumeral.l0 (k + 1) y0 y1 y2))
  | 0 => ⟨fun _ _ r h => by simp [impl_isNumeral.j0] at h, fun _ r h => by simp [impl_isNumeral.j1] at h, fun _ _ r h => by simp [impl_isNumeral.j2] at h, fun _ _ _ r h => by simp [impl_isNumeral.l0] at h⟩
  | k + 1 => by
    obtain ⟨ih0, ih1, ih2, ih3⟩ := impl_isNumeral.mono_l k
    refine ⟨?_, ?_, ?_, ?_⟩
    · intro y0 y1
      unfold impl_isNumeral.j0
      repeat' first
      | (with_reducible exact ih0 _ _)
      | (with_reducible exact ih1 _)
      | (with_reducible exact ih2 _ _)
      | (with_reducible exact ih3 _ _ _)
      | (with_reducible exact LeO.refl _)
      | (with_reducible exact LeO.none _)
      | (with_reducible refine LeO.ite ?_ ?_)
      | (with_reducible refine LeO.bind ?_ (fun _ => ?_))
      | exact ih0 _ _
      | exact ih1 _
      | exact ih2 _ _
      | exact ih3 _ _ _
      | exact LeO.none _
      | refine LeO.ite ?_ ?_
      | refine LeO.bind ?_ (fun _ => ?_)
    · intro y0
      unfold impl_isNumeral.j1
      repeat' first
      | (with_reducible exact ih0 _ _)
      | (with_reducible exact ih1 _)
      | (with_reducible exact ih2 _ _)
      | (with_reducible exact ih3 _ _ _)
      | (with_reducible exact LeO.refl _)
      | (with_reducible exact LeO.none _)
      | (with_reducible refine LeO.ite ?_ ?_)
      | (with_reducible refine LeO.bind ?_ (fun _ => ?_))
      | exact ih0 _ _
      | exact ih1 _
      | exact ih2 _ _
      | exact ih3 _ _ _
      | exact LeO.none _
      | refine LeO.ite ?_ ?_
      | refine LeO.bind ?_ (fun _ => ?_)
    · intro y0 y1
      unfold impl_isNumeral.j2
      repeat' first
      | (with_reducible exact ih0 _ _)
      | (with_reducible exact ih1 _)
      | (with_reducible exact ih2 _ _)
      | (with_reducible exact ih3 _ _ _)
      | (with_reducible exact LeO.refl _)
      | (with_reducible exact LeO.none _)
      | (with_reducible refine LeO.ite ?_ ?_)
      | (with_reducible refine LeO.bind ?_ (fun _ => ?_))
      | exact ih0 _ _
      | exact ih1 _
      | exact ih2 _ _
      | exact ih3 _ _ _
      | exact LeO.none _
      | refine LeO.ite ?_ ?_
      | refine LeO.bind ?_ (fun _ => ?_)
    · intro y0 y1 y2
      unfold impl_isNumeral.l0
      repeat' first
      | (with_reducible exact ih0 _ _)
      | (with_reducible exact ih1 _)
      | (with_reducible exact ih2 _ _)
      | (with_reducible exact ih3 _ _ _)
      | (with_reducible exact LeO.refl _)
      | (with_reducible exact LeO.none _)
      | (with_reducible refine LeO.ite ?_ ?_)
      | (with_reducible refine LeO.bind ?_ (fun _ => ?_))
      | exact ih0 _ _
      | exact ih1 _
      | exact ih2 _ _
      | exact ih3 _ _ _
      | exact LeO.none _
      | refine LeO.ite ?_ ?_
      | refine LeO.bind ?_ (fun _ => ?_)
theorem impl_isNumeral.mono : ∀ a0 k, LeO (impl_isNumeral.f k a0) (impl_isNumeral.f (k + 1) a0) := by
  intro a0 k
  obtain ⟨ih0, ih1, ih2, ih3⟩ := impl_isNumeral.mono_l k
  unfold impl_isNumeral.f
  repeat' first
      | (with_reducible exact ih0 _ _)
      | (with_reducible exact ih1 _)
      | (with_reducible exact ih2 _ _)
      | (with_reducible exact ih3 _ _ _)
      | (with_reducible exact LeO.refl _)
      | (with_reducible exact LeO.none _)
      | (with_reducible refine LeO.ite ?_ ?_)
      | (with_reducible refine LeO.bind ?_ (fun _ => ?_))
      | exact ih0 _ _
      | exact ih1 _
      | exact ih2 _ _
      | exact ih3 _ _ _
      | exact LeO.none _
      | refine LeO.ite ?_ ?_
      | refine LeO.bind ?_ (fun _ => ?_)
set_option maxHeartbeats 8000000 in
set_option maxRecDepth 100000 in
theorem impl_isNumeral.calls (k : Nat) (a0 : ByteArray) (r : Bool) (w : World) (h : impl_isNumeral.f k a0 = some r) :
    Calls Try.prog 38 #[.string a0] w fun e w' => e = .returned (.bool r) ∧ Drawn0 w w' := by
  have H : (if (a0.size : Int) > 0 then (if 0 < (a0.size : Int) then (impl_isNumeral.j0 k a0 ((bt a0 0) == 45)) else (none)) else (impl_isNumeral.j0 k a0 false)) = some r := h
  clear h
  have HC2 := Aside0.mk H
  clear H
  go_enter Try.func38, Try.ntmps38
  go_upto_region 1 with (fail)
  go_cut [11] (fun v11 wc => ∃ (kq : Nat) (x11_1 : Bool), v11 = .bool x11_1 ∧ Aside0 (impl_isNumeral.j0 kq a0 x11_1 = some r) ∧ Aside0 (kq ≤ k) ∧ Drawn0 w wc)
  case first =>
    have H := HC2.out
    clear HC2
    by_cases c3 : (a0.size : Int) > 0
    · rw [if_pos c3] at H
      have c3b0 : decide (0 < (a0.size : Int)) = true := decide_eq_true c3
      have c3b1 : decide (0 < a0.size) = true := decide_eq_true (by omega)
      clear c3
      (first | rw [c3b0] | (simp only [i64_w, i32_w]; rw [c3b0]) | skip)
      by_cases c4 : 0 < (a0.size : Int)
      · rw [if_pos c4] at H
        have c4b0 : decide (0 < (a0.size : Int)) = true := decide_eq_true c4
        have c4b1 : decide (0 < a0.size) = true := decide_eq_true (by omega)
        clear c4
        have H' := Aside0.mk H
        clear H
        have p5 : 0 ≤ (0 : Int) := (by omega)
        have q5 : 0 < a0.size := (by have : (0 : Int) < (a0.size : Int) := of_decide_eq_true (by first | (with_reducible assumption) | assumption); omega)
        have hx5 : ∀ h : 0 < a0.size, ((a0[0]'h).toNat : Int) = bt a0 0 := bt_at a0 0
        clear p5
        have qi5 : (0 < (a0.size : Int)) = True := eq_true (of_decide_eq_true (by first | (with_reducible assumption) | assumption))
        replace q5 := eq_true q5
        go_wp2
        go_meet
        case rel => exact ⟨_, (((bt a0 0) == 45)), (by first | rfl | (simp; done) | (simp [*]; done)), H', ⟨by first | omega | exact Nat.le_refl _⟩, by repeat (first | exact Drawn0.refl _ | apply Drawn0.step)⟩
      · rw [if_neg c4] at H
        exact absurd H (by simp)
    · rw [if_neg c3] at H
      have c3b0 : decide (0 < (a0.size : Int)) = false := decide_eq_false c3
      have c3b1 : decide (0 < a0.size) = false := decide_eq_false (by omega)
      clear c3
      (first | rw [c3b0] | (simp only [i64_w, i32_w]; rw [c3b0]) | skip)
      have H' := Aside0.mk H
      clear H
      go_wp2
      go_meet
      case rel => exact ⟨_, (false), (by first | rfl | (simp; done) | (simp [*]; done)), H', ⟨by first | omega | exact Nat.le_refl _⟩, by repeat (first | exact Drawn0.refl _ | apply Drawn0.step)⟩
  case rest =>
    clear HC2
    try clear p2
    try clear c3
    try clear c3b0
    try clear c3b1
    try clear c4
    try clear c4b0
    try clear c4b1
    try clear p5
    try clear q5
    try clear hx5
    try clear qi5
    try clear p5
    try clear q5
    obtain ⟨kq, x11_1, rfl, HA, HJ1, ⟨mc1, rfl⟩⟩ := hcut
    cases kq with
    | zero => exact absurd HA.out (by simp [impl_isNumeral.j0])
    | succ kj1 =>
      have H := HA.out
      clear HA
      simp only [impl_isNumeral.j0] at H
      have HC6 := Aside0.mk H
      clear H
      go_upto_if 11 with (fail)
      go_cut [0] (fun v0 wc => ∃ (kq : Nat) (x0_5 : ByteArray), v0 = .string x0_5 ∧ Aside0 (impl_isNumeral.j1 kq x0_5 = some r) ∧ Aside0 (kq ≤ kj1) ∧ Drawn0 w wc)
      case first =>
        have H := HC6.out
        clear HC6
        by_cases c7 : x11_1 = true
        · subst c7
          have H1 : (if 1 ≤ (a0.size : Int) then (if (a0.extract 1 a0.size).toList = ([48] : List UInt8) then (some false) else (impl_isNumeral.j1 kj1 (a0.extract 1 a0.size))) else (none)) = some r := by rw [if_pos rfl] at H; exact H
          clear H
          have H := H1
          clear H1
          by_cases c8 : 1 ≤ (a0.size : Int)
          · rw [if_pos c8] at H
            have c8b0 := eq_true c8
            have c8b1 : decide (1 ≤ (a0.size : Int)) = true := decide_eq_true c8
            clear c8
            by_cases c9 : (a0.extract 1 a0.size).toList = ([48] : List UInt8)
            · rw [if_pos c9] at H
              have c9b0 : ((a0.extract 1 a0.size).toList == ([48] : List UInt8)) = true := beq_iff_eq.mpr c9
              have c9b1 : ((a0.extract 1 a0.size).toList != ([48] : List UInt8)) = false := bne_eq_false_iff_eq.mpr c9
              clear c9
              (first | rw [c9b0] | (simp only [i64_w, i32_w]; rw [c9b0]) | skip)
              obtain rfl := Option.some.inj H
              go_wp2
              go_ret
              exact ⟨by first | rfl | (simp; done) | (simp [*]; done), by repeat (first | exact Drawn0.refl _ | apply Drawn0.step)⟩
            · rw [if_neg c9] at H
              have c9b0 : ((a0.extract 1 a0.size).toList == ([48] : List UInt8)) = false := beq_eq_false_iff_ne.mpr c9
              have c9b1 : ((a0.extract 1 a0.size).toList != ([48] : List UInt8)) = true := bne_iff_ne.mpr c9
              (first | rw [c9b0] | (simp only [i64_w, i32_w]; rw [c9b0]) | skip)
              have H' := Aside0.mk H
              clear H
              go_wp2
              go_meet
              case rel => exact ⟨_, (a0.extract 1 a0.size), (by first | rfl | (simp; done) | (simp [*]; done)), H', ⟨by have := HJ1.out; first | omega | exact Nat.le_refl _⟩, by repeat (first | exact Drawn0.refl _ | apply Drawn0.step)⟩
          · rw [if_neg c8] at H
            exact absurd H (by simp)
        · replace c7 := Bool.eq_false_iff.mpr c7
          subst c7
          have H1 : (impl_isNumeral.j1 kj1 a0) = some r := by rw [if_neg (show ¬ (false = true) by decide)] at H; exact H
          clear H
          have H := H1
          clear H1
          have H' := Aside0.mk H
          clear H
          go_wp2
          go_meet
          case rel => exact ⟨_, (a0), (by first | rfl | (simp; done) | (simp [*]; done)), H', ⟨by have := HJ1.out; first | omega | exact Nat.le_refl _⟩, by repeat (first | exact Drawn0.refl _ | apply Drawn0.step)⟩
      case rest =>
        clear HC6
        try clear c1
        try clear p2
        try clear c3
        try clear c3b0
        try clear c3b1
        try clear c4
        try clear c4b0
        try clear c4b1
        try clear p5
        try clear q5
        try clear hx5
        try clear qi5
        try clear c7
        try clear c8
        try clear c8b0
        try clear c8b1
        try clear c9
        try clear c9b0
        try clear c9b1
        try clear p2
        try clear p5
        try clear q5
        obtain ⟨kq, x0_5, rfl, HA, HJ5, ⟨mc5, rfl⟩⟩ := hcut
        cases kq with
        | zero => exact absurd HA.out (by simp [impl_isNumeral.j1])
        | succ kj5 =>
          have H := HA.out
          clear HA
          simp only [impl_isNumeral.j1] at H
          have HC10 := Aside0.mk H
          clear H
          go_upto_region 5 with (fail)
          go_cut [27] (fun v27 wc => ∃ (kq : Nat) (x27_9 : Bool), v27 = .bool x27_9 ∧ Aside0 (impl_isNumeral.j2 kq x0_5 x27_9 = some r) ∧ Aside0 (kq ≤ kj5) ∧ Drawn0 w wc)
          case first =>
            have H := HC10.out
            clear HC10
            by_cases c11 : x0_5.toList = ([] : List UInt8)
            · rw [if_pos c11] at H
              have c11b0 : (x0_5.toList == ([] : List UInt8)) = true := beq_iff_eq.mpr c11
              have c11b1 : (x0_5.toList != ([] : List UInt8)) = false := bne_eq_false_iff_eq.mpr c11
              clear c11
              (first | rw [c11b0] | (simp only [i64_w, i32_w]; rw [c11b0]) | skip)
              have H' := Aside0.mk H
              clear H
              go_wp2
              go_meet
              case rel => exact ⟨_, (true), (by first | rfl | (simp; done) | (simp [*]; done)), H', ⟨by have := HJ1.out; have := HJ5.out; first | omega | exact Nat.le_refl _⟩, by repeat (first | exact Drawn0.refl _ | apply Drawn0.step)⟩
            · rw [if_neg c11] at H
              have c11b0 : (x0_5.toList == ([] : List UInt8)) = false := beq_eq_false_iff_ne.mpr c11
              have c11b1 : (x0_5.toList != ([] : List UInt8)) = true := bne_iff_ne.mpr c11
              (first | rw [c11b0] | (simp only [i64_w, i32_w]; rw [c11b0]) | skip)
              by_cases c12 : 0 < (x0_5.size : Int)
              · rw [if_pos c12] at H
                have c12b0 : decide (0 < (x0_5.size : Int)) = true := decide_eq_true c12
                have c12b1 : decide (0 < x0_5.size) = true := decide_eq_true (by omega)
                clear c12
                by_cases c14 : (bt x0_5 0) = 48
                · rw [if_pos c14] at H
                  have c14b0 : ((bt x0_5 0) == 48) = true := beq_iff_eq.mpr c14
                  have c14b1 : ((bt x0_5 0) != 48) = false := bne_eq_false_iff_eq.mpr c14
                  clear c14
                  have H' := Aside0.mk H
                  clear H
                  have p13 : 0 ≤ (0 : Int) := (by omega)
                  have q13 : 0 < x0_5.size := (by have : (0 : Int) < (x0_5.size : Int) := of_decide_eq_true (by first | (with_reducible assumption) | assumption); omega)
                  have hx13 : ∀ h : 0 < x0_5.size, ((x0_5[0]'h).toNat : Int) = bt x0_5 0 := bt_at x0_5 0
                  clear p13
                  have qi13 : (0 < (x0_5.size : Int)) = True := eq_true (of_decide_eq_true (by first | (with_reducible assumption) | assumption))
                  replace q13 := eq_true q13
                  go_wp2
                  go_meet
                  case rel => exact ⟨_, (decide ((x0_5.size : Int) > 1)), (by first | rfl | (simp; done) | (simp [*]; done)), H', ⟨by have := HJ1.out; have := HJ5.out; first | omega | exact Nat.le_refl _⟩, by repeat (first | exact Drawn0.refl _ | apply Drawn0.step)⟩
                · rw [if_neg c14] at H
                  have c14b0 : ((bt x0_5 0) == 48) = false := beq_eq_false_iff_ne.mpr c14
                  have c14b1 : ((bt x0_5 0) != 48) = true := bne_iff_ne.mpr c14
                  have H' := Aside0.mk H
                  clear H
                  have p13 : 0 ≤ (0 : Int) := (by omega)
                  have q13 : 0 < x0_5.size := (by have : (0 : Int) < (x0_5.size : Int) := of_decide_eq_true (by first | (with_reducible assumption) | assumption); omega)
                  have hx13 : ∀ h : 0 < x0_5.size, ((x0_5[0]'h).toNat : Int) = bt x0_5 0 := bt_at x0_5 0
                  clear p13
                  have qi13 : (0 < (x0_5.size : Int)) = True := eq_true (of_decide_eq_true (by first | (with_reducible assumption) | assumption))
                  replace q13 := eq_true q13
                  go_wp2
                  go_meet
                  case rel => exact ⟨_, (false), (by first | rfl | (simp; done) | (simp [*]; done)), H', ⟨by have := HJ1.out; have := HJ5.out; first | omega | exact Nat.le_refl _⟩, by repeat (first | exact Drawn0.refl _ | apply Drawn0.step)⟩
              · rw [if_neg c12] at H
                exact absurd H (by simp)
          case rest =>
            clear HC10
            try clear c1
            try clear p1
            try clear q1
            try clear hx1
            try clear qi1
            try clear p2
            try clear c3
            try clear c3b0
            try clear c3b1
            try clear c4
            try clear c4b0
            try clear c4b1
            try clear c5
            try clear p5
            try clear q5
            try clear hx5
            try clear qi5
            try clear c7
            try clear c8
            try clear c8b0
            try clear c8b1
            try clear c9
            try clear c9b0
            try clear c9b1
            try clear c11
            try clear c11b0
            try clear c11b1
            try clear c12
            try clear c12b0
            try clear c12b1
            try clear p13
            try clear q13
            try clear hx13
            try clear qi13
            try clear c14
            try clear c14b0
            try clear c14b1
            try clear p13
            try clear p2
            try clear p5
            try clear q13
            try clear q5
            obtain ⟨kq, x27_9, rfl, HA, HJ9, ⟨mc9, rfl⟩⟩ := hcut
            cases kq with
            | zero => exact absurd HA.out (by simp [impl_isNumeral.j2])
            | succ kj9 =>
              have H := HA.out
              clear HA
              simp only [impl_isNumeral.j2] at H
              by_cases c15 : x27_9 = true
              · subst c15
                have H1 : (some false) = some r := by rw [if_pos rfl] at H; exact H
                clear H
                have H := H1
                clear H1
                obtain rfl := Option.some.inj H
                go_wp2
                go_ret
                exact ⟨by first | rfl | (simp; done) | (simp [*]; done), by repeat (first | exact Drawn0.refl _ | apply Drawn0.step)⟩
              · replace c15 := Bool.eq_false_iff.mpr c15
                subst c15
                have H1 : (impl_isNumeral.l0 kj9 x0_5 (x0_5.size : Int) 0) = some r := by rw [if_neg (show ¬ (false = true) by decide)] at H; exact H
                clear H
                have H := H1
                clear H1
                have H' := Aside0.mk H
                clear H
                go_wp2
                go_loopg [30] kj9 (fun kq v30 w' => ∃ (x30_4 : Int), v30 = .int .i64 x30_4 ∧ Aside0 (impl_isNumeral.l0 kq x0_5 (x0_5.size : Int) x30_4 = some r) ∧ Aside0 (kq ≤ kj9) ∧ Drawn0 w w')
                case atStart => exact ⟨(0), (by first | rfl | (simp; done) | (simp [*]; done)), H', ⟨Nat.le_refl _⟩, by repeat (first | exact Drawn0.refl _ | apply Drawn0.step)⟩
                case round =>
                  clear H'
                  try clear c1
                  try clear p1
                  try clear q1
                  try clear hx1
                  try clear qi1
                  try clear p2
                  try clear c3
                  try clear c3b0
                  try clear c3b1
                  try clear c4
                  try clear c4b0
                  try clear c4b1
                  try clear c5
                  try clear p5
                  try clear q5
                  try clear hx5
                  try clear qi5
                  try clear c7
                  try clear c8
                  try clear c8b0
                  try clear c8b1
                  try clear c9
                  try clear c9b0
                  try clear c9b1
                  try clear c11
                  try clear c11b0
                  try clear c11b1
                  try clear c12
                  try clear c12b0
                  try clear c12b1
                  try clear p13
                  try clear q13
                  try clear hx13
                  try clear qi13
                  try clear c14
                  try clear c14b0
                  try clear c14b1
                  try clear c15
                  try clear p1
                  try clear p13
                  try clear p2
                  try clear p5
                  try clear q1
                  try clear q13
                  try clear q5
                  obtain ⟨x30_4, rfl, HA, HK4, ⟨m4, rfl⟩⟩ := hrel
                  cases gk with
                  | zero => exact absurd HA.out (by simp [impl_isNumeral.l0])
                  | succ k4 =>
                    have H := HA.out
                    clear HA
                    simp only [impl_isNumeral.l0] at H
                    by_cases c16 : x30_4 < (x0_5.size : Int)
                    · rw [if_pos c16] at H
                      have c16b0 : decide (x30_4 < (x0_5.size : Int)) = true := decide_eq_true c16
                      clear c16
                      by_cases c17 : 0 ≤ x30_4
                      · rw [if_pos c17] at H
                        have c17b0 : decide (0 ≤ x30_4) = true := decide_eq_true c17
                        clear c17
                        by_cases c18 : x30_4 < (x0_5.size : Int)
                        · rw [if_pos c18] at H
                          have c18b0 : decide (x30_4 < (x0_5.size : Int)) = true := decide_eq_true c18
                          clear c18
                          by_cases c20 : (bt x0_5 x30_4) < 48
                          · rw [if_pos c20] at H
                            have c20b0 : decide ((bt x0_5 x30_4) < 48) = true := decide_eq_true c20
                            clear c20
                            obtain rfl := Option.some.inj H
                            have p19 : 0 ≤ (x30_4 : Int) := of_decide_eq_true (by first | (with_reducible assumption) | assumption)
                            have q19 : x30_4 < (x0_5.size : Int) := of_decide_eq_true (by first | (with_reducible assumption) | assumption)
                            have hx19 := bt_at x0_5 x30_4
                            replace p19 := eq_true p19
                            replace q19 := eq_true q19
                            go_wp2
                            go_ret
                            exact ⟨by first | rfl | (simp; done) | (simp [*]; done), by repeat (first | exact Drawn0.refl _ | apply Drawn0.step)⟩
                          · rw [if_neg c20] at H
                            have c20b0 : decide ((bt x0_5 x30_4) < 48) = false := decide_eq_false c20
                            clear c20
                            by_cases c22 : (bt x0_5 x30_4) > 57
                            · rw [if_pos c22] at H
                              have c22b0 : decide (57 < (bt x0_5 x30_4)) = true := decide_eq_true c22
                              clear c22
                              obtain rfl := Option.some.inj H
                              have p19 : 0 ≤ (x30_4 : Int) := of_decide_eq_true (by first | (with_reducible assumption) | assumption)
                              have q19 : x30_4 < (x0_5.size : Int) := of_decide_eq_true (by first | (with_reducible assumption) | assumption)
                              have hx19 := bt_at x0_5 x30_4
                              replace p19 := eq_true p19
                              replace q19 := eq_true q19
                              have p21 : 0 ≤ (x30_4 : Int) := of_decide_eq_true (by first | (with_reducible assumption) | assumption)
                              have q21 : x30_4 < (x0_5.size : Int) := of_decide_eq_true (by first | (with_reducible assumption) | assumption)
                              have hx21 := bt_at x0_5 x30_4
                              replace p21 := eq_true p21
                              replace q21 := eq_true q21
                              go_wp2
                              go_ret
                              exact ⟨by first | rfl | (simp; done) | (simp [*]; done), by repeat (first | exact Drawn0.refl _ | apply Drawn0.step)⟩
                            · rw [if_neg c22] at H
                              have c22b0 : decide (57 < (bt x0_5 x30_4)) = false := decide_eq_false c22
                              clear c22
                              have H' := Aside0.mk H
                              clear H
                              have p19 : 0 ≤ (x30_4 : Int) := of_decide_eq_true (by first | (with_reducible assumption) | assumption)
                              have q19 : x30_4 < (x0_5.size : Int) := of_decide_eq_true (by first | (with_reducible assumption) | assumption)
                              have hx19 := bt_at x0_5 x30_4
                              replace p19 := eq_true p19
                              replace q19 := eq_true q19
                              have p21 : 0 ≤ (x30_4 : Int) := of_decide_eq_true (by first | (with_reducible assumption) | assumption)
                              have q21 : x30_4 < (x0_5.size : Int) := of_decide_eq_true (by first | (with_reducible assumption) | assumption)
                              have hx21 := bt_at x0_5 x30_4
                              replace p21 := eq_true p21
                              replace q21 := eq_true q21
                              go_wp2
                              go_roundg k4
                              case measure => have := HJ1.out; have := HJ5.out; have := HJ9.out; have := HK4.out; omega
                              case rel => exact ⟨(wrap64 (x30_4 + 1)), (by first | rfl | (simp; done) | (simp [*]; done)), H', ⟨by have := HJ1.out; have := HJ5.out; have := HJ9.out; have := HK4.out; omega⟩, by repeat (first | exact Drawn0.refl _ | apply Drawn0.step)⟩
                        · rw [if_neg c18] at H
                          exact absurd H (by simp)
                      · rw [if_neg c17] at H
                        exact absurd H (by simp)
                    · rw [if_neg c16] at H
                      have c16b0 : decide (x30_4 < (x0_5.size : Int)) = false := decide_eq_false c16
                      clear c16
                      obtain rfl := Option.some.inj H
                      go_wp2
                      go_ret
                      exact ⟨by first | rfl | (simp; done) | (simp [*]; done), by repeat (first | exact Drawn0.refl _ | apply Drawn0.step)⟩
end Go.Proofs.Ythanlckjfghnkaa.PW
end
section
namespace Go.Proofs.Ythanlckjfghnkaa.Px
open Go.RowKit Go.Proofs.YthanlckjfghnkaaW.PrintWords Go.Proofs.Ythanlckjfghnkaa.PW Go.Proofs.Ythanlckjfghnkaa.Pb Go.Proofs.Ythanlckjfghnkaa.Pc Go.Proofs.Ythanlckjfghnkaa.Pm Go.Proofs.Ythanlckjfghnkaa.Pw Dg
set_option linter.unusedVariables false
set_option linter.unusedSimpArgs false
theorem sown (l : List Int) (h : l.length ≤ 1099511627776) : spec_l01Own.f l = some l := by
  unfold spec_l01Own.f
  simp only [Option.bind_some, List.length_nil, List.nil_append]
  rw [if_pos (by omega)]
def smk (s : Int) (n : Nat) : Int × List Int := if n = 0 then (0, []) else (s, L n)
theorem smake_loop (s : Int) (l : List Int) (hd : Dig 16777216 l) (hl : l.length ≤ 1099511627776) : ∀ i : Nat, i ≤ l.length → val 16777216 (l.take i) = val 16777216 l → Ev (fun k => spec_l02Make.l0 k s l (i : Int)) (smk s (val 16777216 l).toNat) := by
  intro i
  induction i with
  | zero =>
    intro _ hv
    refine Ev.step (f := fun _ => some (0, [])) (fun k => ?_) (ev_of fun _ => ?_)
    · simp only [spec_l02Make.l0]
      rw [if_neg (by omega), if_pos (by omega)]
    · rw [List.take_zero, val_nil] at hv
      rw [← hv]; rfl
  | succ i ih =>
    intro hi hv
    have e1 : wrap64 (((i + 1 : Nat) : Int) - 1) = (i : Int) := by rw [wrapZ _ (by omega) (by omega)]; omega
    by_cases h0 : l.getD i 0 = 0
    · refine Ev.step (f := fun k => spec_l02Make.l0 k s l (i : Int)) (fun k => ?_) (ih (by omega) ?_)
      · simp only [spec_l02Make.l0]
        rw [if_pos (by omega), e1, if_pos (by omega), if_pos (by omega), rdN, if_pos h0]
      · rw [← hv]
        exact (val_take_zero (by omega) h0).symm
    · refine Ev.step (f := fun _ => some (s, l.take (i + 1))) (fun k => ?_) (ev_of fun _ => ?_)
      · simp only [spec_l02Make.l0]
        rw [if_pos (by omega), e1, if_pos (by omega), if_pos (by omega), rdN, if_neg h0, if_neg (by omega), if_pos (by omega), if_pos (show ((i + 1 : Nat) : Int) ≤ (l.length : Int) by omega), Int.toNat_natCast, sown _ (by simp; omega)]
        rfl
      · have ht : Top (l.take (i + 1)) := top_take_of hi (.inr (by rw [Nat.add_sub_cancel]; exact h0))
        have hne : l.take (i + 1) ≠ [] := by
          intro e
          have := congrArg List.length e
          rw [List.length_take, List.length_nil] at this
          omega
        have hp := val_pos (hd.take (i + 1)) ht hne (by decide)
        rw [hv] at hp
        have hL := L_of (hd.take (i + 1)) ht
        rw [hv] at hL
        unfold smk
        rw [if_neg (by omega), hL]
theorem smake (s : Int) (l : List Int) (hd : Dig 16777216 l) (hl : l.length ≤ 1099511627776) : Ev (fun k => spec_l02Make.f k s l) (smk s (val 16777216 l).toNat) := by
  unfold spec_l02Make.f
  exact smake_loop s l hd hl l.length (Nat.le_refl _) (by rw [List.take_length])
def mks (k : Int) (n : Nat) : List Int := (List.range n).map fun i : Nat => k + i
theorem mks_len (k : Int) (n : Nat) : (mks k n).length = n := by unfold mks; simp
theorem mks_succ (k : Int) (n : Nat) : mks k (n + 1) = mks k n ++ [k + n] := by unfold mks; rw [List.range_succ, List.map_append]; rfl
theorem mks_getD (k : Int) (n i : Nat) (h : i < n) : (mks k n).getD i 0 = k + i := by unfold mks; simp [List.getD, h]
theorem mark_loop (n : Nat) (hn : n ≤ 1099511627776) (d : Nat) : ∀ (i : Nat) (ys : List Int), i + d = n → ys.length = n → ys.take i = mks 1 i → Ev (fun k => laws_markInt64S.l0 k ys (1 + (i : Int)) (i : Int)) (1 + (n : Int), mks 1 n) := by
  induction d with
  | zero =>
    intro i ys hi hy h
    obtain rfl : i = n := by omega
    rw [List.take_of_length_le (by omega)] at h
    subst h
    refine Ev.step (f := fun _ => some (1 + (i : Int), mks 1 i)) (fun k => ?_) (ev_of fun _ => rfl)
    simp only [laws_markInt64S.l0]
    rw [if_neg (by omega)]
  | succ d ih =>
    intro i ys hi hy h
    refine Ev.step (f := fun k => laws_markInt64S.l0 k (ys.set i (1 + (i : Int))) (1 + ((i + 1 : Nat) : Int)) ((i + 1 : Nat) : Int)) (fun k => ?_) (ih (i + 1) _ (by omega) (by simpa using hy) ?_)
    · simp only [laws_markInt64S.l0]
      rw [if_pos (by omega), if_pos (by omega), wrapZ _ (by omega) (by omega), wrapZ _ (by omega) (by omega), Int.toNat_natCast]
      congr 1
    · rw [List.take_succ_eq_append_getElem (by simp; omega), Dg.take_set, h, mks_succ]
      simp
theorem smark (s : Int) (l : List Int) (hl : l.length ≤ 1099511627776) : Ev (fun k => laws_markWhole.f k s l 1) (1 + (l.length : Int), mks 1 l.length) := by
  unfold laws_markWhole.f laws_markInt64S.f
  exact Ev.bind (f := fun k t => _) (mark_loop l.length hl l.length 0 l (by omega) rfl rfl) (ev_of fun _ => rfl)
theorem held_loop (n : Nat) (hn : n ≤ 1099511627776) (d : Nat) : ∀ (i : Nat), i + d = n → Ev (fun k => laws_heldInt64S.l0 k (mks 1 n) (1 + (i : Int)) (i : Int)) (1 + (n : Int)) := by
  have hln := mks_len 1 n
  induction d with
  | zero =>
    intro i hi
    obtain rfl : i = n := by omega
    refine Ev.step (f := fun _ => some (1 + (i : Int))) (fun k => ?_) (ev_of fun _ => rfl)
    simp only [laws_heldInt64S.l0]
    rw [if_neg (by omega)]
  | succ d ih =>
    intro i hi
    refine Ev.step (f := fun k => laws_heldInt64S.l0 k (mks 1 n) (1 + ((i + 1 : Nat) : Int)) ((i + 1 : Nat) : Int)) (fun k => ?_) (ih (i + 1) (by omega))
    simp only [laws_heldInt64S.l0]
    rw [if_pos (by omega), if_pos (by omega), rdN, mks_getD 1 n i (by omega), if_pos rfl, wrapZ _ (by omega) (by omega), wrapZ _ (by omega) (by omega)]
    congr 1
theorem sheld (s : Int) (n : Nat) (hn : n ≤ 1099511627776) : Ev (fun k => laws_heldWhole.f k s (mks 1 n) 1) (1 + (n : Int)) := by
  unfold laws_heldWhole.f laws_heldInt64S.f
  exact Ev.bind (f := fun k t => _) (held_loop n hn n 0 (by omega)) (ifn (by omega) (ev_of fun _ => rfl))
end Go.Proofs.Ythanlckjfghnkaa.Px
end
section
namespace Go.Proofs.Ythanlckjfghnkaa.PW
open Go.RowKit Go.Proofs.YthanlckjfghnkaaW.PrintWords Go.Proofs.YthanlckjfghnkaaW.PrintLast Go.Proofs.YthanlckjfghnkaaW.PrintMore
attribute [local go_sem] max2_int min2_int max_two min_two max_three min_three max_four min_four   -- for this text's walks alone
set_option linter.unusedVariables false
set_option linter.unusedSimpArgs false
mutual
def spec_l02Plus.l0 : Nat → List Int → List Int → List Int → Int → Int → Option (List Int)
  | 0, _, _, _, _, _ => none
  | k + 1, x0, x1, x5, x6, x7 => if x7 < (x0.length : Int) then (spec_l02Plus.j1 k x0 x1 x5 x6 x7 true) else (if x7 < (x1.length : Int) then (spec_l02Plus.j1 k x0 x1 x5 x6 x7 true) else (spec_l02Plus.j1 k x0 x1 x5 x6 x7 (decide (x6 > 0))))
def spec_l02Plus.j1 : Nat → List Int → List Int → List Int → Int → Int → Bool → Option (List Int)
  | 0, _, _, _, _, _, _ => none
  | k + 1, x0, x1, x5, x6, x7, x22 => if x22 = true then (if x7 < (x0.length : Int) then (if 0 ≤ x7 then (if x7 < (x1.length : Int) then (if x5.length < 17592186044416 then (spec_l02Plus.l0 k x0 x1 (x5 ++ [Int.tmod (wrap64 ((wrap64 (x6 + (rd x0 x7))) + (rd x1 x7))) 16777216]) (wrap64 (Int.tdiv (wrap64 ((wrap64 (x6 + (rd x0 x7))) + (rd x1 x7))) 16777216)) (wrap64 (x7 + 1))) else (none)) else (if x5.length < 17592186044416 then (spec_l02Plus.l0 k x0 x1 (x5 ++ [Int.tmod (wrap64 (x6 + (rd x0 x7))) 16777216]) (wrap64 (Int.tdiv (wrap64 (x6 + (rd x0 x7))) 16777216)) (wrap64 (x7 + 1))) else (none))) else (none)) else (if x7 < (x1.length : Int) then (if 0 ≤ x7 then (if x5.length < 17592186044416 then (spec_l02Plus.l0 k x0 x1 (x5 ++ [Int.tmod (wrap64 (x6 + (rd x1 x7))) 16777216]) (wrap64 (Int.tdiv (wrap64 (x6 + (rd x1 x7))) 16777216)) (wrap64 (x7 + 1))) else (none)) else (none)) else (if x5.length < 17592186044416 then (spec_l02Plus.l0 k x0 x1 (x5 ++ [Int.tmod x6 16777216]) (wrap64 (Int.tdiv x6 16777216)) (wrap64 (x7 + 1))) else (none)))) else (some x5)
end
def spec_l02Plus.f (k : Nat) (l0 : List Int) (l1 : List Int) : Option (List Int) := spec_l02Plus.l0 k l0 l1 (([] : List Int)) 0 0
theorem spec_l02Plus.mono_l : ∀ k, (∀ y0 y1 y2 y3 y4, LeO (spec_l02Plus.l0 k y0 y1 y2 y3 y4) (spec_l02Plus.l0 (k + 1) y0 y1 y2 y3 y4)) ∧ (∀ y0 y1 y2 y3 y4 y5, LeO (spec_l02Plus.j1 k y0 y1 y2 y3 y4 y5) (spec_l02Plus.j1 (k + 1) y0 y1 y2 y3 y4 y5))
  | 0 => ⟨fun _ _ _ _ _ r h => by simp [spec_l02Plus.l0] at h, fun _ _ _ _ _ _ r h => by simp [spec_l02Plus.j1] at h⟩
  | k + 1 => by
    obtain ⟨ih0, ih1⟩ := spec_l02Plus.mono_l k
    refine ⟨?_, ?_⟩
    · intro y0 y1 y2 y3 y4
      unfold spec_l02Plus.l0
      repeat' first
      | (with_reducible exact ih0 _ _ _ _ _)
      | (with_reducible exact ih1 _ _ _ _ _ _)
      | (with_reducible exact LeO.refl _)
      | (with_reducible exact LeO.none _)
      | (with_reducible refine LeO.ite ?_ ?_)
      | (with_reducible refine LeO.bind ?_ (fun _ => ?_))
      | exact ih0 _ _ _ _ _
      | exact ih1 _ _ _ _ _ _
      | exact LeO.none _
      | refine LeO.ite ?_ ?_
      | refine LeO.bind ?_ (fun _ => ?_)
    · intro y0 y1 y2 y3 y4 y5
      unfold spec_l02Plus.j1
      repeat' first
      | (with_reducible exact ih0 _ _ _ _ _)
      | (with_reducible exact ih1 _ _ _ _ _ _)
      | (with_reducible exact LeO.refl _)
      | (with_reducible exact LeO.none _)
      | (with_reducible refine LeO.ite ?_ ?_)
      | (with_reducible refine LeO.bind ?_ (fun _ => ?_))
      | exact ih0 _ _ _ _ _
      | exact ih1 _ _ _ _ _ _
      | exact LeO.none _
      | refine LeO.ite ?_ ?_
      | refine LeO.bind ?_ (fun _ => ?_)
theorem spec_l02Plus.mono : ∀ a0 a1 k, LeO (spec_l02Plus.f k a0 a1) (spec_l02Plus.f (k + 1) a0 a1) := by
  intro a0 a1 k
  obtain ⟨ih0, ih1⟩ := spec_l02Plus.mono_l k
  unfold spec_l02Plus.f
  repeat' first
      | (with_reducible exact ih0 _ _ _ _ _)
      | (with_reducible exact ih1 _ _ _ _ _ _)
      | (with_reducible exact LeO.refl _)
      | (with_reducible exact LeO.none _)
      | (with_reducible refine LeO.ite ?_ ?_)
      | (with_reducible refine LeO.bind ?_ (fun _ => ?_))
      | exact ih0 _ _ _ _ _
      | exact ih1 _ _ _ _ _ _
      | exact LeO.none _
      | refine LeO.ite ?_ ?_
      | refine LeO.bind ?_ (fun _ => ?_)
end Go.Proofs.Ythanlckjfghnkaa.PW
end
section
namespace Go.Proofs.Ythanlckjfghnkaa.PW
open Go.RowKit Go.Proofs.YthanlckjfghnkaaW.PrintWords Go.Proofs.YthanlckjfghnkaaW.PrintLast Go.Proofs.YthanlckjfghnkaaW.PrintMore
attribute [local go_sem] max2_int min2_int max_two min_two max_three min_three max_four min_four   -- for this text's walks alone
set_option linter.unusedVariables false
set_option linter.unusedSimpArgs false
def spec_l02Minus.l0 : Nat → List Int → List Int → List Int → Int → Int → Option (List Int)
  | 0, _, _, _, _, _ => none
  | k + 1, x0, x1, x5, x6, x7 => if x7 < (x0.length : Int) then (if 0 ≤ x7 then (if x7 < (x1.length : Int) then (if (wrap64 ((wrap64 ((rd x0 x7) - x6)) - (rd x1 x7))) < 0 then (if x5.length < 17592186044416 then (spec_l02Minus.l0 k x0 x1 (x5 ++ [wrap64 ((wrap64 ((wrap64 ((rd x0 x7) - x6)) - (rd x1 x7))) + 16777216)]) 1 (wrap64 (x7 + 1))) else (none)) else (if x5.length < 17592186044416 then (spec_l02Minus.l0 k x0 x1 (x5 ++ [wrap64 ((wrap64 ((rd x0 x7) - x6)) - (rd x1 x7))]) 0 (wrap64 (x7 + 1))) else (none))) else (if (wrap64 ((rd x0 x7) - x6)) < 0 then (if x5.length < 17592186044416 then (spec_l02Minus.l0 k x0 x1 (x5 ++ [wrap64 ((wrap64 ((rd x0 x7) - x6)) + 16777216)]) 1 (wrap64 (x7 + 1))) else (none)) else (if x5.length < 17592186044416 then (spec_l02Minus.l0 k x0 x1 (x5 ++ [wrap64 ((rd x0 x7) - x6)]) 0 (wrap64 (x7 + 1))) else (none)))) else (none)) else (some x5)
def spec_l02Minus.f (k : Nat) (l0 : List Int) (l1 : List Int) : Option (List Int) := spec_l02Minus.l0 k l0 l1 (([] : List Int)) 0 0
theorem spec_l02Minus.mono_l : ∀ k, (∀ y0 y1 y2 y3 y4, LeO (spec_l02Minus.l0 k y0 y1 y2 y3 y4) (spec_l02Minus.l0 (k + 1) y0 y1 y2 y3 y4))
  | 0 => fun _ _ _ _ _ r h => by simp [spec_l02Minus.l0] at h
  | k + 1 => by
    have ih0 := spec_l02Minus.mono_l k
    · intro y0 y1 y2 y3 y4
      unfold spec_l02Minus.l0
      repeat' first
      | (with_reducible exact ih0 _ _ _ _ _)
      | (with_reducible exact LeO.refl _)
      | (with_reducible exact LeO.none _)
      | (with_reducible refine LeO.ite ?_ ?_)
      | (with_reducible refine LeO.bind ?_ (fun _ => ?_))
      | exact ih0 _ _ _ _ _
      | exact LeO.none _
      | refine LeO.ite ?_ ?_
      | refine LeO.bind ?_ (fun _ => ?_)
theorem spec_l02Minus.mono : ∀ a0 a1 k, LeO (spec_l02Minus.f k a0 a1) (spec_l02Minus.f (k + 1) a0 a1) := by
  intro a0 a1 k
  have ih0 := spec_l02Minus.mono_l k
  unfold spec_l02Minus.f
  repeat' first
      | (with_reducible exact ih0 _ _ _ _ _)
      | (with_reducible exact LeO.refl _)
      | (with_reducible exact LeO.none _)
      | (with_reducible refine LeO.ite ?_ ?_)
      | (with_reducible refine LeO.bind ?_ (fun _ => ?_))
      | exact ih0 _ _ _ _ _
      | exact LeO.none _
      | refine LeO.ite ?_ ?_
      | refine LeO.bind ?_ (fun _ => ?_)
end Go.Proofs.Ythanlckjfghnkaa.PW
end
section
namespace Go.Proofs.Ythanlckjfghnkaa.PW
open Go.RowKit Go.Proofs.YthanlckjfghnkaaW.PrintWords Go.Proofs.YthanlckjfghnkaaW.PrintLast Go.Proofs.YthanlckjfghnkaaW.PrintMore
attribute [local go_sem] max2_int min2_int max_two min_two max_three min_three max_four min_four   -- for this text's walks alone
set_option linter.unusedVariables false
set_option linter.unusedSimpArgs false
def spec_l02CompareLimbs.l0 : Nat → List Int → List Int → Int → Option (Int)
  | 0, _, _, _ => none
  | k + 1, x0, x1, x5 => if x5 ≥ 0 then (if 0 ≤ x5 then (if x5 < (x0.length : Int) then (if x5 < (x1.length : Int) then (if (rd x0 x5) = (rd x1 x5) then (spec_l02CompareLimbs.l0 k x0 x1 (wrap64 (x5 - 1))) else (if (rd x0 x5) < (rd x1 x5) then (some (-1)) else (some 1))) else (none)) else (none)) else (none)) else (some 0)
def spec_l02CompareLimbs.f (k : Nat) (l0 : List Int) (l1 : List Int) : Option (Int) := if (l0.length : Int) = (l1.length : Int) then (spec_l02CompareLimbs.l0 k l0 l1 (wrap64 ((l0.length : Int) - 1))) else (if (l0.length : Int) < (l1.length : Int) then (some (-1)) else (some 1))
theorem spec_l02CompareLimbs.mono_l : ∀ k, (∀ y0 y1 y2, LeO (spec_l02CompareLimbs.l0 k y0 y1 y2) (spec_l02CompareLimbs.l0 (k + 1) y0 y1 y2))
  | 0 => fun _ _ _ r h => by simp [spec_l02CompareLimbs.l0] at h
  | k + 1 => by
    have ih0 := spec_l02CompareLimbs.mono_l k
    · intro y0 y1 y2
      unfold spec_l02CompareLimbs.l0
      repeat' first
      | (with_reducible exact ih0 _ _ _)
      | (with_reducible exact LeO.refl _)
      | (with_reducible exact LeO.none _)
      | (with_reducible refine LeO.ite ?_ ?_)
      | (with_reducible refine LeO.bind ?_ (fun _ => ?_))
      | exact ih0 _ _ _
      | exact LeO.none _
      | refine LeO.ite ?_ ?_
      | refine LeO.bind ?_ (fun _ => ?_)
theorem spec_l02CompareLimbs.mono : ∀ a0 a1 k, LeO (spec_l02CompareLimbs.f k a0 a1) (spec_l02CompareLimbs.f (k + 1) a0 a1) := by
  intro a0 a1 k
  have ih0 := spec_l02CompareLimbs.mono_l k
  unfold spec_l02CompareLimbs.f
  repeat' first
      | (with_reducible exact ih0 _ _ _)
      | (with_reducible exact LeO.refl _)
      | (with_reducible exact LeO.none _)
      | (with_reducible refine LeO.ite ?_ ?_)
      | (with_reducible refine LeO.bind ?_ (fun _ => ?_))
      | exact ih0 _ _ _
      | exact LeO.none _
      | refine LeO.ite ?_ ?_
      | refine LeO.bind ?_ (fun _ => ?_)
end Go.Proofs.Ythanlckjfghnkaa.PW
end
section
namespace Go.Proofs.Ythanlckjfghnkaa.PW
open Go.RowKit Go.Proofs.YthanlckjfghnkaaW.PrintWords Go.Proofs.YthanlckjfghnkaaW.PrintLast Go.Proofs.YthanlckjfghnkaaW.PrintMore
attribute [local go_sem] max2_int min2_int max_two min_two max_three min_three max_four min_four   -- for this text's walks alone
set_option linter.unusedVariables false
set_option linter.unusedSimpArgs false
def spec_l02Add.f (k : Nat) (a0_0 : Int) (l0_1 : List Int) (a1_0 : Int) (l1_1 : List Int) : Option (Int × List Int) := if a0_0 = 0 then ((spec_l02Make.f k a1_0 l1_1).bind fun bt181 => (some (bt181.1, bt181.2))) else (if a1_0 = 0 then ((spec_l02Make.f k a0_0 l0_1).bind fun bt185 => (some (bt185.1, bt185.2))) else (if a0_0 = a1_0 then ((spec_l02Plus.f k l0_1 l1_1).bind fun t189 => ((spec_l02Make.f k a0_0 t189).bind fun bt192 => (some (bt192.1, bt192.2)))) else ((spec_l02CompareLimbs.f k l0_1 l1_1).bind fun t196 => (if t196 ≥ 0 then ((spec_l02Minus.f k l0_1 l1_1).bind fun t197 => ((spec_l02Make.f k a0_0 t197).bind fun bt200 => (some (bt200.1, bt200.2)))) else ((spec_l02Minus.f k l1_1 l0_1).bind fun t204 => ((spec_l02Make.f k a1_0 t204).bind fun bt207 => (some (bt207.1, bt207.2))))))))
theorem spec_l02Add.mono : ∀ a0 a1 a2 a3 k, LeO (spec_l02Add.f k a0 a1 a2 a3) (spec_l02Add.f (k + 1) a0 a1 a2 a3) := by
  intro a0 a1 a2 a3 k
  unfold spec_l02Add.f
  repeat' first
      | (with_reducible exact spec_l02CompareLimbs.mono _ _ _)
      | (with_reducible exact spec_l02Make.mono _ _ _)
      | (with_reducible exact spec_l02Minus.mono _ _ _)
      | (with_reducible exact spec_l02Plus.mono _ _ _)
      | (with_reducible exact LeO.refl _)
      | (with_reducible exact LeO.none _)
      | (with_reducible refine LeO.ite ?_ ?_)
      | (with_reducible refine LeO.bind ?_ (fun _ => ?_))
      | exact spec_l02CompareLimbs.mono _ _ _
      | exact spec_l02Make.mono _ _ _
      | exact spec_l02Minus.mono _ _ _
      | exact spec_l02Plus.mono _ _ _
      | exact LeO.none _
      | refine LeO.ite ?_ ?_
      | refine LeO.bind ?_ (fun _ => ?_)
end Go.Proofs.Ythanlckjfghnkaa.PW
end
section
namespace Go.Proofs.Ythanlckjfghnkaa.PW
open Go.RowKit Go.Proofs.YthanlckjfghnkaaW.PrintWords Go.Proofs.YthanlckjfghnkaaW.PrintLast Go.Proofs.YthanlckjfghnkaaW.PrintMore
attribute [local go_sem] max2_int min2_int max_two min_two max_three min_three max_four min_four   -- for this text's walks alone
set_option linter.unusedVariables false
set_option linter.unusedSimpArgs false
def spec_l02Both.f (k : Nat) (a0_0 : Int) (l0_1 : List Int) (a1_0 : Int) (l1_1 : List Int) : Option (Int) := (spec_l02Is.f k a0_0 l0_1).bind fun t453 => (if t453 = true then ((spec_l02Is.f k a1_0 l1_1).bind fun t454 => (if t454 = true then (some 0) else (some 1))) else (some 1))
theorem spec_l02Both.mono : ∀ a0 a1 a2 a3 k, LeO (spec_l02Both.f k a0 a1 a2 a3) (spec_l02Both.f (k + 1) a0 a1 a2 a3) := by
  intro a0 a1 a2 a3 k
  unfold spec_l02Both.f
  repeat' first
      | (with_reducible exact spec_l02Is.mono _ _ _)
      | (with_reducible exact LeO.refl _)
      | (with_reducible exact LeO.none _)
      | (with_reducible refine LeO.ite ?_ ?_)
      | (with_reducible refine LeO.bind ?_ (fun _ => ?_))
      | exact spec_l02Is.mono _ _ _
      | exact LeO.none _
      | refine LeO.ite ?_ ?_
      | refine LeO.bind ?_ (fun _ => ?_)
end Go.Proofs.Ythanlckjfghnkaa.PW
end
section
namespace Go.Proofs.Ythanlckjfghnkaa.Pt
end Go.Proofs.Ythanlckjfghnkaa.Pt
end
section
namespace Go.Proofs.Ythanlckjfghnkaa.Py
end Go.Proofs.Ythanlckjfghnkaa.Py
end
section
namespace Go.Proofs.Ythanlckjfghnkaa.Pz
open Go.RowKit Go.Proofs.YthanlckjfghnkaaW.PrintWords Go.Proofs.Ythanlckjfghnkaa.PW Go.Proofs.Ythanlckjfghnkaa.Pb Go.Proofs.Ythanlckjfghnkaa.Pc Go.Proofs.Ythanlckjfghnkaa.Pm Go.Proofs.Ythanlckjfghnkaa.Pw Go.Proofs.Ythanlckjfghnkaa.Px Go.Proofs.Ythanlckjfghnkaa.Pt Go.Proofs.Ythanlckjfghnkaa.Py Dg
set_option linter.unusedVariables false
set_option linter.unusedSimpArgs false
theorem sfit (z : Int) (hz : bl z.natAbs ≤ 1099511627000) : Ev (fun k => spec_l02Fit.f k (sgn z) (L z.natAbs)) (fit z) := by
  have lz := L_len z.natAbs
  unfold spec_l02Fit.f
  have h := l02Is (sgn z) (L z.natAbs) (by omega)
  rw [isW_of] at h
  unfold fit
  by_cases hb : bl z.natAbs ≤ 2400
  · rw [decide_eq_true hb] at h
    rw [if_pos hb]
    exact Ev.bind (f := fun k t => _) h (ifp rfl (ev_of fun _ => rfl))
  · rw [decide_eq_false hb] at h
    rw [if_neg hb]
    exact Ev.bind (f := fun k t => _) h (ifn (by simp) (ev_of fun _ => rfl))
end Go.Proofs.Ythanlckjfghnkaa.Pz
end
section
namespace Go.Proofs.Ythanlckjfghnkaa.Tu
open Go.RowKit Go.Proofs.YthanlckjfghnkaaW.PrintWords Go.Proofs.Ythanlckjfghnkaa.PW Go.Proofs.Ythanlckjfghnkaa.Pb Go.Proofs.Ythanlckjfghnkaa.Pc Go.Proofs.Ythanlckjfghnkaa.Pm Go.Proofs.Ythanlckjfghnkaa.Pw Go.Proofs.Ythanlckjfghnkaa.Px Go.Proofs.Ythanlckjfghnkaa.Pz Dg
set_option linter.unusedVariables false
set_option linter.unusedSimpArgs false
def ng (a : ByteArray) : Bool := decide (0 < a.size) && (bt a 0 == 45)
def bd (a : ByteArray) : ByteArray := if ng a = true then a.extract 1 a.size else a
def Dgs (s : ByteArray) : Prop := ∀ i : Nat, i < s.size → 48 ≤ bt s (i : Int) ∧ bt s (i : Int) ≤ 57
instance decDgs (s : ByteArray) : Decidable (Dgs s) := by unfold Dgs; infer_instance
def Hd (neg : Bool) (s : ByteArray) : Prop := s.size = 0 ∨ (bt s 0 = 48 ∧ (1 < s.size ∨ neg = true))
instance decHd (neg : Bool) (s : ByteArray) : Decidable (Hd neg s) := by unfold Hd; infer_instance
def ok (a : ByteArray) : Bool := decide (¬ Hd (ng a) (bd a) ∧ Dgs (bd a))
def vd (s : ByteArray) : Nat → Nat
  | 0 => 0
  | n + 1 => vd s n * 10 + (bt s (n : Int) - 48).toNat
theorem vd_lt {s : ByteArray} (h : Dgs s) : ∀ n, n ≤ s.size → vd s n < 10 ^ n := by
  intro n
  induction n with
  | zero => intro _; simp [vd]
  | succ n ih =>
    intro hn
    have h1 := ih (by omega)
    have h2 := h n (by omega)
    unfold vd
    rw [Nat.pow_succ]
    omega
theorem vd_ge {s : ByteArray} (h1 : 49 ≤ bt s 0) : ∀ n, 10 ^ n ≤ vd s (n + 1) := by
  intro n
  induction n with
  | zero => unfold vd; simp [vd]; omega
  | succ n ih =>
    unfold vd
    rw [Nat.pow_succ]
    omega
theorem vd_bl {s : ByteArray} (h : Dgs s) (n : Nat) (hn : n ≤ s.size) : bl (vd s n) ≤ 4 * n := by
  apply bl_le
  rw [Nat.pow_mul]
  exact Nat.lt_of_lt_of_le (vd_lt h n hn) (Nat.pow_le_pow_left (by decide) n)
theorem ex_size (a : ByteArray) : (a.extract 1 a.size).size = a.size - 1 := by simp
theorem toList_nil {a : ByteArray} : a.toList = [] ↔ a.size = 0 := by
  rw [ByteArray.toList_eq]
  constructor
  · intro h
    have := congrArg List.length h
    simpa using this
  · intro h
    apply List.eq_nil_of_length_eq_zero
    simpa using h
theorem toList_one {a : ByteArray} : a.toList = [48] ↔ a.size = 1 ∧ bt a 0 = 48 := by
  rw [ByteArray.toList_eq]
  constructor
  · intro h
    have hl : a.size = 1 := by
      have := congrArg List.length h
      simpa using this
    refine ⟨hl, ?_⟩
    have h0 : 0 < a.data.toList.length := by rw [h]; decide
    have h2 : a.data.toList[0] = 48 := by simp only [h]; rfl
    unfold bt
    rw [dif_pos (by show 0 < a.size; omega)]
    have : a[(0 : Int).toNat]'(by show 0 < a.size; omega) = a.data.toList[0] := by simp; rfl
    rw [this, h2]
    rfl
  · rintro ⟨hl, hb⟩
    unfold bt at hb
    rw [dif_pos (by show 0 < a.size; omega)] at hb
    have hlen : a.data.toList.length = 1 := by simpa using hl
    refine List.ext_getElem (by rw [hlen]; rfl) fun i h1 h2 => ?_
    have hi : i = 0 := by rw [hlen] at h1; omega
    subst hi
    have : a[(0 : Int).toNat]'(by show 0 < a.size; omega) = a.data.toList[0] := by simp; rfl
    rw [this] at hb
    show a.data.toList[0] = 48
    apply UInt8.toNat_inj.1
    have e : (48 : UInt8).toNat = 48 := rfl
    omega
theorem num_all {s : ByteArray} (hs : s.size ≤ 9223372036854775807) : ∀ (d i : Nat), i + d = s.size → (∀ j, i ≤ j → j < s.size → 48 ≤ bt s (j : Int) ∧ bt s (j : Int) ≤ 57) → Ev (fun k => impl_isNumeral.l0 k s (s.size : Int) (i : Int)) true := by
  intro d
  induction d with
  | zero =>
    intro i hi h
    refine Ev.step (f := fun _ => some true) (fun k => ?_) (ev_of fun _ => rfl)
    simp only [impl_isNumeral.l0]
    rw [if_neg (by omega)]
  | succ d ih =>
    intro i hi h
    have h1 := h i (Nat.le_refl _) (by omega)
    refine Ev.step (f := fun k => impl_isNumeral.l0 k s (s.size : Int) ((i + 1 : Nat) : Int)) (fun k => ?_) (ih (i + 1) (by omega) fun j h2 h3 => h j (by omega) h3)
    simp only [impl_isNumeral.l0]
    rw [if_pos (by omega), if_pos (by omega), if_pos (by omega), if_neg (by omega), if_neg (by omega), wrapZ _ (by omega) (by omega)]
    rfl
theorem num_not {s : ByteArray} (hs : s.size ≤ 9223372036854775807) (j : Nat) (hj : j < s.size) (hb : ¬ (48 ≤ bt s (j : Int) ∧ bt s (j : Int) ≤ 57)) : ∀ (d i : Nat), i + d = j → Ev (fun k => impl_isNumeral.l0 k s (s.size : Int) (i : Int)) false := by
  intro d
  induction d with
  | zero =>
    intro i hi
    obtain rfl : i = j := by omega
    refine Ev.step (f := fun _ => some false) (fun k => ?_) (ev_of fun _ => rfl)
    simp only [impl_isNumeral.l0]
    rw [if_pos (by omega), if_pos (by omega), if_pos (by omega)]
    by_cases h : bt s (i : Int) < 48
    · rw [if_pos h]
    · rw [if_neg h, if_pos (by omega)]
  | succ d ih =>
    intro i hi
    by_cases h1 : 48 ≤ bt s (i : Int) ∧ bt s (i : Int) ≤ 57
    · refine Ev.step (f := fun k => impl_isNumeral.l0 k s (s.size : Int) ((i + 1 : Nat) : Int)) (fun k => ?_) (ih (i + 1) (by omega))
      simp only [impl_isNumeral.l0]
      rw [if_pos (by omega), if_pos (by omega), if_pos (by omega), if_neg (by omega), if_neg (by omega), wrapZ _ (by omega) (by omega)]
      rfl
    · refine Ev.step (f := fun _ => some false) (fun k => ?_) (ev_of fun _ => rfl)
      simp only [impl_isNumeral.l0]
      rw [if_pos (by omega), if_pos (by omega), if_pos (by omega)]
      by_cases h : bt s (i : Int) < 48
      · rw [if_pos h]
      · rw [if_neg h, if_pos (by omega)]
theorem not_dgs {s : ByteArray} (h : ¬ Dgs s) : ∃ j : Nat, j < s.size ∧ ¬ (48 ≤ bt s (j : Int) ∧ bt s (j : Int) ≤ 57) := by
  unfold Dgs at h
  simp only [Classical.not_forall] at h
  obtain ⟨j, h1, h2⟩ := h
  exact ⟨j, h1, h2⟩
theorem num_j1 {s : ByteArray} (neg : Bool) (hs : s.size ≤ 9223372036854775807) (hn : neg = true → ¬ (s.size = 1 ∧ bt s 0 = 48)) : Ev (fun k => impl_isNumeral.j1 k s) (decide (¬ Hd neg s ∧ Dgs s)) := by
  have hj2 : Ev (fun k => impl_isNumeral.j2 k s true) false := by
    refine Ev.step (f := fun _ => some false) (fun k => ?_) (ev_of fun _ => rfl)
    simp only [impl_isNumeral.j2]
    rw [if_pos trivial]
  have hjf : Ev (fun k => impl_isNumeral.j2 k s false) (decide (Dgs s)) := by
    refine Ev.step (f := fun k => impl_isNumeral.l0 k s (s.size : Int) 0) (fun k => ?_) ?_
    · simp only [impl_isNumeral.j2]
      rw [if_neg (by simp)]
    · by_cases h : Dgs s
      · rw [decide_eq_true h]
        exact num_all hs s.size 0 (by omega) fun j _ hj => h j hj
      · rw [decide_eq_false h]
        obtain ⟨j, h1, h2⟩ := not_dgs h
        exact num_not hs j h1 h2 j 0 (by omega)
  by_cases h0 : s.size = 0
  · have e : decide (¬ Hd neg s ∧ Dgs s) = false := decide_eq_false fun h => h.1 (.inl h0)
    rw [e]
    refine Ev.step (f := fun k => impl_isNumeral.j2 k s true) (fun k => ?_) hj2
    simp only [impl_isNumeral.j1]
    rw [if_pos (toList_nil.2 h0)]
  · by_cases hb : bt s 0 = 48
    · by_cases h1 : 1 < s.size
      · have e : decide (¬ Hd neg s ∧ Dgs s) = false := decide_eq_false fun h => h.1 (.inr ⟨hb, .inl h1⟩)
        rw [e]
        refine Ev.step (f := fun k => impl_isNumeral.j2 k s true) (fun k => ?_) hj2
        simp only [impl_isNumeral.j1]
        rw [if_neg (fun h => h0 (toList_nil.1 h)), if_pos (by omega), if_pos hb, show decide ((s.size : Int) > 1) = true from decide_eq_true (by omega)]
      · have hH : ¬ Hd neg s := by
          rintro (h | ⟨_, h | h⟩)
          · exact h0 h
          · exact h1 h
          · exact hn h ⟨by omega, hb⟩
        rw [show decide (¬ Hd neg s ∧ Dgs s) = decide (Dgs s) by simp [hH]]
        refine Ev.step (f := fun k => impl_isNumeral.j2 k s false) (fun k => ?_) hjf
        simp only [impl_isNumeral.j1]
        rw [if_neg (fun h => h0 (toList_nil.1 h)), if_pos (by omega), if_pos hb, show decide ((s.size : Int) > 1) = false from decide_eq_false (by omega)]
    · have hH : ¬ Hd neg s := by
        rintro (h | ⟨h, _⟩)
        · exact h0 h
        · exact hb h
      rw [show decide (¬ Hd neg s ∧ Dgs s) = decide (Dgs s) by simp [hH]]
      refine Ev.step (f := fun k => impl_isNumeral.j2 k s false) (fun k => ?_) hjf
      simp only [impl_isNumeral.j1]
      rw [if_neg (fun h => h0 (toList_nil.1 h)), if_pos (by omega), if_neg hb]
theorem numeral (a : ByteArray) (hs : a.size ≤ 9223372036854775807) : Ev (fun k => impl_isNumeral.f k a) (ok a) := by
  have hex := ex_size a
  have key : Ev (fun k => impl_isNumeral.j0 k a (ng a)) (ok a) := by
    unfold ok bd
    cases hg : ng a with
    | false =>
      refine Ev.step (f := fun k => impl_isNumeral.j1 k a) (fun k => ?_) ?_
      · simp only [impl_isNumeral.j0]
        rw [if_neg (by simp)]
      · rw [if_neg (by simp)]
        exact num_j1 false hs (by simp)
    | true =>
      have h1 : 0 < a.size := by
        unfold ng at hg
        simp at hg
        exact hg.1
      rw [if_pos rfl]
      by_cases hz : (a.extract 1 a.size).size = 1 ∧ bt (a.extract 1 a.size) 0 = 48
      · rw [decide_eq_false (fun h => h.1 (.inr ⟨hz.2, .inr rfl⟩))]
        refine Ev.step (f := fun _ => some false) (fun k => ?_) (ev_of fun _ => rfl)
        simp only [impl_isNumeral.j0]
        rw [if_pos trivial, if_pos (by omega), if_pos (toList_one.2 hz)]
      · refine Ev.step (f := fun k => impl_isNumeral.j1 k (a.extract 1 a.size)) (fun k => ?_) (num_j1 true (by omega) fun _ => hz)
        simp only [impl_isNumeral.j0]
        rw [if_pos trivial, if_pos (by omega), if_neg (fun h => hz (toList_one.1 h))]
  unfold impl_isNumeral.f
  by_cases h0 : (a.size : Int) > 0
  · refine ifp h0 (ifp h0 ?_)
    rw [show (bt a 0 == 45) = ng a by unfold ng; rw [decide_eq_true (show 0 < a.size by omega), Bool.true_and]]
    exact key
  · refine ifn h0 ?_
    rw [show ng a = false by unfold ng; rw [decide_eq_false (show ¬ 0 < a.size by omega), Bool.false_and]] at key
    exact key
structure Dt (xs : List Int) (d : Int) (i : Nat) (ys : List Int) (c : Int) : Prop where
  dig : Dig 16777216 ys
  len : ys.length = xs.length
  fr : 0 ≤ c ∧ c < 10
  high : ys.drop i = xs.drop i
  inv : val 16777216 (ys.take i) + 16777216 ^ i * c = 10 * val 16777216 (xs.take i) + d
theorem Dt.start {xs : List Int} {d : Int} (hx : Dig 16777216 xs) (h0 : 0 ≤ d) (h1 : d < 10) : Dt xs d 0 xs d := by
  refine ⟨hx, rfl, ⟨h0, h1⟩, rfl, ?_⟩
  rw [List.take_zero, val_nil]
  simp
theorem Dt.step {xs ys : List Int} {d c x : Int} {i : Nat} (h : Dt xs d i ys c) (hx : Dig 16777216 xs) (hi : i < xs.length) (he : x = c + 10 * ys.getD i 0) : Dt xs d (i + 1) (ys.set i (x % 16777216)) (x / 16777216) ∧ 0 ≤ x ∧ x < 167772160 := by
  have hl := h.len
  have hc := h.fr
  have cB : ((16777216 : Nat) : Int) = 16777216 := rfl
  have hyi := h.dig.all0 (by decide) i
  rw [cB] at hyi
  have hxy : ys.getD i 0 = xs.getD i 0 := by
    have h1 := congrArg (fun l : List Int => l.getD 0 0) h.high
    simp only [List.getD, List.getElem?_drop, Nat.add_zero] at h1 ⊢
    exact h1
  have hx0 : 0 ≤ x := by omega
  have hx1 : x < 167772160 := by omega
  refine ⟨⟨h.dig.set _ (by omega) (by rw [cB]; omega), by simpa using hl, by omega, ?_, ?_⟩, hx0, hx1⟩
  · rw [List.drop_set_of_lt (by omega)]
    have h1 := congrArg (List.drop 1) h.high
    rw [List.drop_drop, List.drop_drop] at h1
    exact h1
  · rw [val_take_succ' (ys.set i (x % 16777216)) i, val_take_succ' xs i, Dg.getD_set_eq (by omega), Dg.take_set, cB]
    have hv := h.inv
    rw [hxy] at he
    have e := Int.mul_ediv_add_emod x 16777216
    have hp : (16777216 : Int) ^ (i + 1) = 16777216 ^ i * 16777216 := Int.pow_succ _ _
    rw [hp]
    generalize (16777216 : Int) ^ i = B at *
    generalize x / 16777216 = q at *
    generalize x % 16777216 = r at *
    generalize xs.getD i 0 = u at *
    have e2 : B * x = B * c + B * (10 * u) := by rw [he, Int.mul_add]
    have e3 : B * x = B * (16777216 * q) + B * r := by rw [← e, Int.mul_add]
    rw [Int.mul_assoc B 16777216 q, Int.mul_add 10]
    rw [show 10 * (B * u) = B * (10 * u) by rw [← Int.mul_assoc, ← Int.mul_assoc, Int.mul_comm 10 B]]
    omega
theorem Dt.done {xs ys : List Int} {d c : Int} (h : Dt xs d xs.length ys c) : val 16777216 ys + 16777216 ^ ys.length * c = 10 * val 16777216 xs + d := by
  have := h.inv
  rwa [← h.len, List.take_length, h.len, List.take_length, ← h.len] at this
theorem read_in {s : ByteArray} (g : Int) (n : Nat) {R : Int × List Int × Bool} (xs : List Int) (d : Int) (hx : Dig 16777216 xs) (hl : xs.length ≤ 1000000) (hn : n ≤ 1000000) (h0 : 0 ≤ d) (h1 : d < 10)
    (hE : ∀ zs, Dig 16777216 zs → val 16777216 zs = 10 * val 16777216 xs + d → zs.length ≤ xs.length + 1 → Ev (fun k => spec_l02Read.l1 k g s zs ((n + 1 : Nat) : Int)) R) : ∀ (m i : Nat) (ys : List Int) (c : Int), i + m = xs.length → Dt xs d i ys c → Ev (fun k => spec_l02Read.l2 k g s ys (n : Int) c (i : Int)) R := by
  intro m
  induction m with
  | zero =>
    intro i ys c hi h
    have hlen := h.len
    obtain rfl : i = xs.length := by omega
    have hd := h.done
    have hc := h.fr
    have ew : wrap64 ((n : Int) + 1) = ((n + 1 : Nat) : Int) := by rw [wrapZ _ (by omega) (by omega)]; rfl
    by_cases h3 : c > 0
    · refine Ev.step (f := fun k => spec_l02Read.l1 k g s (ys ++ [c]) ((n + 1 : Nat) : Int)) (fun k => ?_) (hE _ (h.dig.append (Dig.cons hc.1 (by show c < 16777216; omega) Dig.nil)) (by rw [val_snoc]; exact hd) (by simp; omega))
      simp only [spec_l02Read.l2]
      rw [if_neg (by omega), if_pos h3, if_pos (by omega), ew]
    · obtain rfl : c = 0 := by omega
      refine Ev.step (f := fun k => spec_l02Read.l1 k g s ys ((n + 1 : Nat) : Int)) (fun k => ?_) (hE _ h.dig (by rw [← hd]; simp) (by omega))
      simp only [spec_l02Read.l2]
      rw [if_neg (by omega), if_neg h3, ew]
  | succ m ih =>
    intro i ys c hi h
    have hlen := h.len
    have hc := h.fr
    have cB : ((16777216 : Nat) : Int) = 16777216 := rfl
    have hyi := h.dig.all0 (by decide) i
    rw [cB] at hyi
    obtain ⟨h2, h3, h4⟩ := h.step hx (by omega) rfl
    refine Ev.step (f := fun k => spec_l02Read.l2 k g s (ys.set i ((c + 10 * ys.getD i 0) % 16777216)) (n : Int) ((c + 10 * ys.getD i 0) / 16777216) ((i + 1 : Nat) : Int)) (fun k => ?_) (ih (i + 1) _ _ (by omega) h2)
    simp only [spec_l02Read.l2]
    rw [if_pos (by omega), if_pos (by omega), rdN]
    generalize ys.getD i 0 = u at *
    rw [wrapZ (10 * u) (by omega) (by omega), wrapZ (c + 10 * u) (by omega) (by omega), Int.tdiv_eq_ediv_of_nonneg h3, Int.tmod_eq_emod_of_nonneg h3, Int.toNat_natCast, wrapZ ((c + 10 * u) / 16777216) (by omega) (by omega), wrapZ ((i : Int) + 1) (by omega) (by omega)]
    rfl
theorem read_digits {s : ByteArray} (g : Int) (hd : Dgs s) : ∀ (m n : Nat) (xs : List Int), n + m = min 1000 s.size → Dig 16777216 xs → val 16777216 xs = ((vd s n : Nat) : Int) → xs.length ≤ n → Ev (fun k => spec_l02Read.l1 k g s xs (n : Int)) ((smk g (vd s (min 1000 s.size))).1, (smk g (vd s (min 1000 s.size))).2, true) := by
  intro m
  induction m with
  | zero =>
    intro n xs hn hx hv hl
    have hmk := smake g xs hx (by omega)
    rw [hv, Int.toNat_natCast, show n = min 1000 s.size by omega] at hmk
    have hj : Ev (fun k => spec_l02Read.j5 k g s xs (n : Int) false) ((smk g (vd s (min 1000 s.size))).1, (smk g (vd s (min 1000 s.size))).2, true) := by
      refine Ev.step (f := fun k => (spec_l02Make.f k g xs).bind fun bt548 => (some (bt548.1, bt548.2, true))) (fun k => ?_) (Ev.bind (f := fun k t => _) hmk (ev_of fun _ => rfl))
      simp only [spec_l02Read.j5]
      rw [if_neg (by simp)]
    by_cases h1 : (n : Int) < (s.size : Int)
    · refine Ev.step (f := fun k => spec_l02Read.j5 k g s xs (n : Int) false) (fun k => ?_) hj
      simp only [spec_l02Read.l1]
      rw [if_pos h1, decide_eq_false (by omega)]
    · refine Ev.step (f := fun k => spec_l02Read.j5 k g s xs (n : Int) false) (fun k => ?_) hj
      simp only [spec_l02Read.l1]
      rw [if_neg h1]
  | succ m ih =>
    intro n xs hn hx hv hl
    have h1 := hd n (by omega)
    refine Ev.step (f := fun k => spec_l02Read.j5 k g s xs (n : Int) true) (fun k => ?_) ?_
    · simp only [spec_l02Read.l1]
      rw [if_pos (by omega), decide_eq_true (by omega)]
    refine Ev.step (f := fun k => spec_l02Read.l2 k g s xs (n : Int) (bt s (n : Int) - 48) 0) (fun k => ?_) ?_
    · simp only [spec_l02Read.j5]
      rw [if_pos trivial, if_pos (by omega), if_pos (by omega), Int.emod_eq_of_lt (by omega) (by omega)]
    refine read_in g n xs (bt s (n : Int) - 48) hx (by omega) (by omega) (by omega) (by omega) (fun zs hz hvz hlz => ih (n + 1) zs (by omega) hz ?_ (by omega)) xs.length 0 xs _ (by omega) (Dt.start hx (by omega) (by omega))
    rw [hvz, hv]
    show _ = ((vd s n * 10 + (bt s (n : Int) - 48).toNat : Nat) : Int)
    omega
theorem read_all {s : ByteArray} (g : Int) {R : Int × List Int × Bool} (hs : s.size ≤ 9223372036854775807) (hE : Ev (fun k => spec_l02Read.l1 k g s [] 0) R) : ∀ (d i : Nat), i + d = s.size → (∀ j, i ≤ j → j < s.size → 48 ≤ bt s (j : Int) ∧ bt s (j : Int) ≤ 57) → Ev (fun k => spec_l02Read.l0 k g s (i : Int)) R := by
  intro d
  induction d with
  | zero =>
    intro i hi h
    refine Ev.step (f := fun k => spec_l02Read.l1 k g s [] 0) (fun k => ?_) hE
    simp only [spec_l02Read.l0]
    rw [if_neg (by omega)]
  | succ d ih =>
    intro i hi h
    have h1 := h i (Nat.le_refl _) (by omega)
    refine Ev.step (f := fun k => spec_l02Read.l0 k g s ((i + 1 : Nat) : Int)) (fun k => ?_) (ih (i + 1) (by omega) fun j h2 h3 => h j (by omega) h3)
    simp only [spec_l02Read.l0]
    rw [if_pos (by omega), if_pos (by omega), if_neg (by omega), if_neg (by omega), wrapZ _ (by omega) (by omega)]
    rfl
theorem read_not {s : ByteArray} (g : Int) (hs : s.size ≤ 9223372036854775807) (j : Nat) (hj : j < s.size) (hb : ¬ (48 ≤ bt s (j : Int) ∧ bt s (j : Int) ≤ 57)) : ∀ (d i : Nat), i + d = j → Ev (fun k => spec_l02Read.l0 k g s (i : Int)) (0, [], false) := by
  have stop : ∀ i : Nat, i < s.size → ¬ (48 ≤ bt s (i : Int) ∧ bt s (i : Int) ≤ 57) → Ev (fun k => spec_l02Read.l0 k g s (i : Int)) (0, [], false) := by
    intro i hi hb
    refine Ev.step (f := fun _ => some (0, [], false)) (fun k => ?_) (ev_of fun _ => rfl)
    simp only [spec_l02Read.l0]
    rw [if_pos (by omega), if_pos (by omega)]
    by_cases h : bt s (i : Int) < 48
    · rw [if_pos h]
    · rw [if_neg h, if_pos (by omega)]
  intro d
  induction d with
  | zero =>
    intro i hi
    obtain rfl : i = j := by omega
    exact stop i hj hb
  | succ d ih =>
    intro i hi
    by_cases h1 : 48 ≤ bt s (i : Int) ∧ bt s (i : Int) ≤ 57
    · refine Ev.step (f := fun k => spec_l02Read.l0 k g s ((i + 1 : Nat) : Int)) (fun k => ?_) (ih (i + 1) (by omega))
      simp only [spec_l02Read.l0]
      rw [if_pos (by omega), if_pos (by omega), if_neg (by omega), if_neg (by omega), wrapZ _ (by omega) (by omega)]
      rfl
    · exact stop i (by omega) h1
def sg (a : ByteArray) : Int := if ng a = true then -1 else 1
def rz (a : ByteArray) (n : Nat) : Int := sg a * ((vd (bd a) n : Nat) : Int)
theorem smk_rz (a : ByteArray) (n : Nat) : smk (sg a) (vd (bd a) n) = (sgn (rz a n), L (rz a n).natAbs) := by
  unfold rz
  rw [Int.natAbs_mul, show (sg a).natAbs = 1 by unfold sg; split <;> rfl, Nat.one_mul, Int.natAbs_natCast]
  generalize vd (bd a) n = v
  unfold smk sg sgn
  by_cases h : v = 0
  · subst h
    rw [if_pos rfl, L_zero]
    split <;> rfl
  · rw [if_neg h]
    split
    · rw [if_pos (by omega)]
    · rw [if_neg (by omega), if_neg (by omega)]
theorem read_j1 {a : ByteArray} (hs : (bd a).size ≤ 9223372036854775807) : Ev (fun k => spec_l02Read.j1 k (sg a) (bd a)) (if ok a = true then (sgn (rz a (min 1000 (bd a).size)), L (rz a (min 1000 (bd a).size)).natAbs, true) else (0, [], false)) := by
  have hneg : decide (sg a < 0) = ng a := by
    unfold sg
    cases ng a
    · rfl
    · rfl
  have hj2 : Ev (fun k => spec_l02Read.j2 k (sg a) (bd a) true) (0, [], false) := by
    refine Ev.step (f := fun _ => some (0, [], false)) (fun k => ?_) (ev_of fun _ => rfl)
    simp only [spec_l02Read.j2]
    rw [if_pos trivial]
  have hbad : Hd (ng a) (bd a) → (if ok a = true then (sgn (rz a (min 1000 (bd a).size)), L (rz a (min 1000 (bd a).size)).natAbs, true) else (0, [], false)) = ((0 : Int), ([] : List Int), false) := by
    intro h
    rw [if_neg]
    unfold ok
    simp [h]
  have hgood : ¬ Hd (ng a) (bd a) → Ev (fun k => spec_l02Read.j2 k (sg a) (bd a) false) (if ok a = true then (sgn (rz a (min 1000 (bd a).size)), L (rz a (min 1000 (bd a).size)).natAbs, true) else (0, [], false)) := by
    intro h
    refine Ev.step (f := fun k => spec_l02Read.l0 k (sg a) (bd a) 0) (fun k => ?_) ?_
    · simp only [spec_l02Read.j2]
      rw [if_neg (by simp)]
    · by_cases hd : Dgs (bd a)
      · rw [if_pos (by unfold ok; simp [h, hd])]
        refine read_all (sg a) hs ?_ (bd a).size 0 (by omega) fun j _ hj => hd j hj
        have := read_digits (sg a) hd (min 1000 (bd a).size) 0 [] (by omega) Dig.nil (by rfl) (by simp)
        rw [smk_rz] at this
        exact this
      · rw [if_neg (by unfold ok; simp [h, hd])]
        obtain ⟨j, h1, h2⟩ := not_dgs hd
        exact read_not (sg a) hs j h1 h2 j 0 (by omega)
  by_cases h0 : (bd a).size = 0
  · rw [hbad (.inl h0)]
    refine Ev.step (f := fun k => spec_l02Read.j2 k (sg a) (bd a) true) (fun k => ?_) hj2
    simp only [spec_l02Read.j1]
    rw [if_pos (by omega)]
  · by_cases hb : bt (bd a) 0 = 48
    · by_cases h1 : 1 < (bd a).size
      · rw [hbad (.inr ⟨hb, .inl h1⟩)]
        refine Ev.step (f := fun k => spec_l02Read.j2 k (sg a) (bd a) true) (fun k => ?_) hj2
        simp only [spec_l02Read.j1]
        rw [if_neg (by omega), if_pos (by omega), if_pos hb, if_pos (by omega)]
      · refine Ev.step (f := fun k => spec_l02Read.j2 k (sg a) (bd a) (ng a)) (fun k => ?_) ?_
        · simp only [spec_l02Read.j1]
          rw [if_neg (by omega), if_pos (by omega), if_pos hb, if_neg (by omega), hneg]
        · cases hg : ng a with
          | true =>
            rw [hbad (.inr ⟨hb, .inr hg⟩)]
            exact hj2
          | false =>
            refine hgood ?_
            rintro (h | ⟨_, h | h⟩)
            · exact h0 h
            · exact h1 h
            · rw [hg] at h; cases h
    · refine Ev.step (f := fun k => spec_l02Read.j2 k (sg a) (bd a) false) (fun k => ?_) (hgood ?_)
      · simp only [spec_l02Read.j1]
        rw [if_neg (by omega), if_pos (by omega), if_neg hb]
      · rintro (h | ⟨h, _⟩)
        · exact h0 h
        · exact hb h
theorem read (a : ByteArray) (hs : a.size ≤ 9223372036854775807) : Ev (fun k => spec_l02Read.f k a) (if ok a = true then (sgn (rz a (min 1000 (bd a).size)), L (rz a (min 1000 (bd a).size)).natAbs, true) else (0, [], false)) := by
  have hex := ex_size a
  have hb : (bd a).size ≤ 9223372036854775807 := by unfold bd; split <;> omega
  have hj := read_j1 hb
  generalize (if ok a = true then (sgn (rz a (min 1000 (bd a).size)), L (rz a (min 1000 (bd a).size)).natAbs, true) else ((0 : Int), ([] : List Int), false)) = R at *
  have key : Ev (fun k => spec_l02Read.j0 k 1 a (ng a)) R := by
    unfold bd sg at hj
    cases hg : ng a with
    | false =>
      rw [hg, if_neg (by simp), if_neg (by simp)] at hj
      refine Ev.step (f := fun k => spec_l02Read.j1 k 1 a) (fun k => ?_) hj
      simp only [spec_l02Read.j0]
      rw [if_neg (by simp)]
    | true =>
      have h1 : 0 < a.size := by
        unfold ng at hg
        simp at hg
        exact hg.1
      rw [hg, if_pos rfl, if_pos rfl] at hj
      refine Ev.step (f := fun k => spec_l02Read.j1 k (-1) (a.extract 1 a.size)) (fun k => ?_) hj
      simp only [spec_l02Read.j0]
      rw [if_pos trivial, if_pos (by omega)]
  unfold spec_l02Read.f
  by_cases h0 : (a.size : Int) > 0
  · refine ifp h0 (ifp h0 ?_)
    rw [show (bt a 0 == 45) = ng a by unfold ng; rw [decide_eq_true (show 0 < a.size by omega), Bool.true_and]]
    exact key
  · refine ifn h0 ?_
    rw [show ng a = false by unfold ng; rw [decide_eq_false (show ¬ 0 < a.size by omega), Bool.false_and]] at key
    exact key
set_option exponentiation.threshold 3000 in
theorem long (a : ByteArray) (h : ok a = true) (hl : 800 < a.size) : fit (rz a (min 1000 (bd a).size)) = (0, [], 3) := by
  have hex := ex_size a
  have hb : 800 ≤ (bd a).size := by unfold bd; split <;> omega
  unfold ok at h
  obtain ⟨h1, h2⟩ := of_decide_eq_true h
  have h3 := h2 0 (by omega)
  have h4 : 49 ≤ bt (bd a) 0 := by
    rcases Int.lt_or_le (bt (bd a) 0) 49 with h5 | h5
    · refine absurd (.inr ⟨?_, .inl (by omega)⟩) h1
      have : bt (bd a) ((0 : Nat) : Int) = bt (bd a) 0 := rfl
      omega
    · exact h5
  obtain ⟨n, hn⟩ : ∃ n, min 1000 (bd a).size = n + 1 := ⟨min 1000 (bd a).size - 1, by omega⟩
  have h5 := vd_ge h4 n
  have h6 : 10 ^ 799 ≤ 10 ^ n := Nat.pow_le_pow_right (by decide) (by omega)
  have h7 : 2 ^ 2400 ≤ 10 ^ 799 := by decide +kernel
  unfold fit
  rw [if_neg]
  intro h8
  rw [bl_iff] at h8
  unfold rz at h8
  rw [hn, Int.natAbs_mul, show (sg a).natAbs = 1 by unfold sg; split <;> rfl, Nat.one_mul, Int.natAbs_natCast] at h8
  omega
theorem rz_bl (a : ByteArray) (h : ok a = true) (n : Nat) (hn : n ≤ (bd a).size) : bl (rz a n).natAbs ≤ 4 * n := by
  unfold ok at h
  obtain ⟨h1, h2⟩ := of_decide_eq_true h
  unfold rz
  rw [Int.natAbs_mul, show (sg a).natAbs = 1 by unfold sg; split <;> rfl, Nat.one_mul, Int.natAbs_natCast]
  exact vd_bl h2 n hn
def prs (a : ByteArray) : Int × List Int × Int := if ok a = true then fit (rz a (min 1000 (bd a).size)) else (0, [], 6)
theorem sparse (a : ByteArray) (hs : a.size ≤ 9223372036854775807) : Ev (fun k => spec_ParseWhole.f k a) (prs a) := by
  unfold spec_ParseWhole.f prs
  have hr := read a hs
  cases h : ok a with
  | false =>
    rw [h] at hr
    exact Ev.bind (f := fun k t => _) hr (ifn (by simp) (ev_of fun _ => rfl))
  | true =>
    rw [h] at hr
    refine Ev.bind (f := fun k t => _) hr (ifp rfl ?_)
    have := sfit (rz a (min 1000 (bd a).size)) (by have := rz_bl a h (min 1000 (bd a).size) (by omega); omega)
    exact Ev.bind (f := fun k t => _) this (ev_of fun _ => rfl)
end Go.Proofs.Ythanlckjfghnkaa.Tu
end
