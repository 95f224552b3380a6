/- Lemmas of the claim: Mf, Mg, Mh, Mi, Mj, Mk, Ml, Mn, Mo, Mq, Mr, Mu, Re, Rf, Na, Nc, Qc, Nd, Nf, Va, Ad, Sl, Hs, Nr, Sr, Ng, Vr, Ae, Vb, Af, Ah, Ao, Ap. -/
import Derived.RegionTactic
import Derived.ChangeAlike
import Derived.Laws.CopyOwn
import Derived.Deep.OwnRows
import Derived.Test.YtjddhnjjeomfjaaQNIm
import Derived.Test.YtjddhnjjeomfjaaQNIg
import Derived.Deep.RegionLaw
import Derived.Test.YtjddhnjjeomfjaaQNIc
import Derived.Test.YtjddhnjjeomfjaaQNIj
import Derived.Test.YtjddhnjjeomfjaaQNIa
import Derived.Test.YtjddhnjjeomfjaaQNIi
import Derived.OwnWalk
import Derived.Test.YtjddhnjjeomfjaaQNIf
section
set_option linter.unusedVariables false
set_option linter.unusedSimpArgs false
namespace Go.Proofs.Ytjddhnjjeomfjaa.Mf
open Go.RowKit Go.Proofs.YtjddhnjjeomfjaaW.PrintWords Go.Proofs.Ytjddhnjjeomfjaa.PW Go.Proofs.Ytjddhnjjeomfjaa.Pc Go.Proofs.Ytjddhnjjeomfjaa.Ma Go.Proofs.Ytjddhnjjeomfjaa.Mb Go.Proofs.Ytjddhnjjeomfjaa.Mc Go.Proofs.Ytjddhnjjeomfjaa.Md Go.Proofs.Ytjddhnjjeomfjaa.Me Dg
theorem D_or (a b i : Nat) : (D (a ||| b)).getD i 0 = (((a / 4294967296 ^ i % 4294967296) ||| (b / 4294967296 ^ i % 4294967296) : Nat) : Int) := by
  rw [D_getD]
  congr 1
  rw [show (4294967296 : Nat) = 2 ^ 32 from rfl, ← Nat.pow_mul]
  have h1 : (a ||| b) / 2 ^ (32 * i) = a / 2 ^ (32 * i) ||| b / 2 ^ (32 * i) := by
    rw [← Nat.shiftRight_eq_div_pow, ← Nat.shiftRight_eq_div_pow, ← Nat.shiftRight_eq_div_pow, Nat.shiftRight_or_distrib]
  rw [h1, Nat.or_mod_two_pow]
theorem or_list {a b : Nat} {ys : List Int} (hl : ys.length = max (D a).length (D b).length) (h : ∀ j, j < ys.length → ys.getD j 0 = bits .or .u32 ((D a).getD j 0) ((D b).getD j 0)) : Dig 4294967296 ys ∧ val 4294967296 ys = ((a ||| b : Nat) : Int) := by
  have hb : ∀ j, bits .or .u32 ((D a).getD j 0) ((D b).getD j 0) = (((a ||| b) / 4294967296 ^ j % 4294967296 : Nat) : Int) := by
    intro j
    rw [← D_getD, D_or, D_getD, D_getD]
    exact (bits_nat .u32 32 (by decide) Po.wraps_u32 _ _ (Nat.mod_lt _ (by decide)) (Nat.mod_lt _ (by decide))).2
  have h2 : ∀ j, j < ys.length → ys.getD j 0 = (((a ||| b) / 4294967296 ^ j % 4294967296 : Nat) : Int) := fun j hj => by rw [h j hj, hb]
  constructor
  · exact dig_of_getD fun j hj => by rw [h2 j hj]; have := Nat.mod_lt ((a ||| b) / 4294967296 ^ j) (show 0 < 4294967296 by decide); omega
  · rw [val_digits (by decide) ys (a ||| b) h2]
    congr 1
    apply Nat.mod_eq_of_lt
    have e : (4294967296 : Nat) = 2 ^ 32 := rfl
    rw [e, ← Nat.pow_mul]
    apply Nat.or_lt_two_pow
    · have := D_bl a
      have h3 := lt_bl a
      have := Nat.pow_le_pow_right (n := 2) (by decide) (show bl a ≤ 32 * ys.length by omega)
      omega
    · have := D_bl b
      have h3 := lt_bl b
      have := Nat.pow_le_pow_right (n := 2) (by decide) (show bl b ≤ 32 * ys.length by omega)
      omega
def OrTo (a b : Nat) (m i : Nat) (ys : List Int) : Prop := ys.length = m ∧ (∀ j, j < i → ys.getD j 0 = bits .or .u32 ((D a).getD j 0) ((D b).getD j 0)) ∧ (∀ j, i ≤ j → ys.getD j 0 = (D a).getD j 0)
theorem OrTo.step {a b m i : Nat} {ys : List Int} (h : OrTo a b m i ys) (hi : i < m) : OrTo a b m (i + 1) (ys.set i (bits .or .u32 ((D a).getD i 0) ((D b).getD i 0))) := by
  obtain ⟨h1, h2, h3⟩ := h
  refine ⟨by simpa using h1, fun j hj => ?_, fun j hj => ?_⟩
  · by_cases e : j = i
    · subst e; rw [Dg.getD_set_eq (by omega)]
    · rw [Dg.getD_set_ne (by omega)]; exact h2 j (by omega)
  · rw [Dg.getD_set_ne (by omega)]; exact h3 j (by omega)
theorem or_zero (a j : Nat) : bits .or .u32 ((D a).getD j 0) 0 = (D a).getD j 0 := by
  have := (bits_nat .u32 32 (by decide) Po.wraps_u32 (a / 4294967296 ^ j % 4294967296) 0 (Nat.mod_lt _ (by decide)) (by decide)).2
  rw [D_getD]
  simpa using this
theorem OrTo.done {a b m : Nat} {ys : List Int} (h : OrTo a b m (D b).length ys) (hm : m = max (D a).length (D b).length) : Dig 4294967296 ys ∧ val 4294967296 ys = ((a ||| b : Nat) : Int) := by
  obtain ⟨h1, h2, h3⟩ := h
  refine or_list (by omega) fun j hj => ?_
  by_cases hjb : j < (D b).length
  · exact h2 j hjb
  · rw [h3 j (by omega), getD_ge (l := D b) (by omega), or_zero]
end Go.Proofs.Ytjddhnjjeomfjaa.Mf
end
section
namespace Go.Proofs.Ytjddhnjjeomfjaa.Mg
end Go.Proofs.Ytjddhnjjeomfjaa.Mg
end
section
set_option linter.unusedVariables false
set_option linter.unusedSimpArgs false
namespace Go.Proofs.Ytjddhnjjeomfjaa.Mh
open Go.RowKit Go.Proofs.YtjddhnjjeomfjaaW.PrintWords Go.Proofs.Ytjddhnjjeomfjaa.PW Go.Proofs.Ytjddhnjjeomfjaa.Pc Go.Proofs.Ytjddhnjjeomfjaa.Pb Go.Proofs.Ytjddhnjjeomfjaa.Pw Go.Proofs.Ytjddhnjjeomfjaa.Ma Go.Proofs.Ytjddhnjjeomfjaa.Mb Go.Proofs.Ytjddhnjjeomfjaa.Mc Go.Proofs.Ytjddhnjjeomfjaa.Md Go.Proofs.Ytjddhnjjeomfjaa.Me Go.Proofs.Ytjddhnjjeomfjaa.Mg Dg
theorem C_at {w w1 : World} {A : Option Addr} {l : List Int} (hC : (Kd.int .i64).C w A l.length l) (hb : Below w.heap.size w w1) : (Kd.int .i64).C w1 A l.length l := Kd.C_below hC hb
end Go.Proofs.Ytjddhnjjeomfjaa.Mh
end
section
set_option linter.unusedVariables false
set_option linter.unusedSimpArgs false
namespace Go.Proofs.Ytjddhnjjeomfjaa.Mi
open Go.RowKit Go.Proofs.YtjddhnjjeomfjaaW.PrintWords Go.Proofs.Ytjddhnjjeomfjaa.PW Go.Proofs.Ytjddhnjjeomfjaa.Pc Go.Proofs.Ytjddhnjjeomfjaa.Ma Go.Proofs.Ytjddhnjjeomfjaa.Mb Go.Proofs.Ytjddhnjjeomfjaa.Mc Go.Proofs.Ytjddhnjjeomfjaa.Md Go.Proofs.Ytjddhnjjeomfjaa.Me Dg
open Pm (sgn)
set_option maxHeartbeats 800000 in
theorem cmp {w : World} {p q : Nat} {x y : Int} (hx : Z w p x) (hy : Z w q y) (h1 : bl x.natAbs ≤ 1073741823) (h2 : bl y.natAbs ≤ 1073741823) :
    Calls Try.prog 73 #[.pointer (some ⟨p, 0, none⟩), .pointer (some ⟨q, 0, none⟩)] w (Tells w (.int .i64 (sgn (x - y)))) := by
  obtain ⟨A, c, k0, k1, hm, hp⟩ := Z.open hx
  obtain ⟨B, d, j0, j1, hn, hq⟩ := Z.open hy
  have hC := fun (W : World) (hb : Below w.heap.size w W) => cCmp (hm.below hb) (hn.below hb) (by omega) (by omega)
  have hD := fun (W : World) (hb : Below w.heap.size w W) => cCmp (hn.below hb) (hm.below hb) (by omega) (by omega)
  by_cases hxn : x < 0 <;> by_cases hyn : y < 0
  · have e : sgn ((y.natAbs : Int) - x.natAbs) = sgn (x - y) := by congr 1; omega
    rw [e] at hD
    rw [show decide (x < 0) = true by simpa using hxn] at k0
    rw [show decide (y < 0) = true by simpa using hyn] at j0
    have HD := Lib.hid hD
    clear hC hD e hxn hyn h1 h2 hm hn hx hy
    go_enter Try.func73, Try.ntmps73
    go_wp2
    go_quiet ((go_at_call 120; exact Calls.quiet_of (HD.out _ (below_drawn _))))
    go_wp2
    go_ret
    exact ⟨rfl, _, rfl⟩
  · have e : sgn (x - y) = -1 := by unfold sgn; rw [if_pos (by omega)]
    rw [e]
    rw [show decide (x < 0) = true by simpa using hxn] at k0
    rw [show decide (y < 0) = false by simpa using hyn] at j0
    clear hC hD e hxn hyn h1 h2 hm hn hx hy
    go_enter Try.func73, Try.ntmps73
    go_wp2
    go_ret
    exact ⟨rfl, 0, rfl⟩
  · have e : sgn (x - y) = 1 := by unfold sgn; rw [if_neg (by omega), if_neg (by omega)]
    rw [e]
    rw [show decide (x < 0) = false by simpa using hxn] at k0
    rw [show decide (y < 0) = true by simpa using hyn] at j0
    clear hC hD e hxn hyn h1 h2 hm hn hx hy
    go_enter Try.func73, Try.ntmps73
    go_wp2
    go_ret
    exact ⟨rfl, 0, rfl⟩
  · have e : sgn ((x.natAbs : Int) - y.natAbs) = sgn (x - y) := by congr 1; omega
    rw [e] at hC
    rw [show decide (x < 0) = false by simpa using hxn] at k0
    rw [show decide (y < 0) = false by simpa using hyn] at j0
    have HC := Lib.hid hC
    clear hC hD e hxn hyn h1 h2 hm hn hx hy
    go_enter Try.func73, Try.ntmps73
    go_wp2
    go_quiet ((go_at_call 120; exact Calls.quiet_of (HC.out _ (below_drawn _))))
    go_wp2
    go_ret
    exact ⟨rfl, _, rfl⟩
def sv (n : Bool) (m : Nat) : Int := if n = true then -(m : Int) else m
theorem sv_abs (z : Int) : sv (decide (z < 0)) z.natAbs = z := natAbs_if z
set_option maxHeartbeats 1600000 in
theorem plus {w : World} {p q : Nat} {x : Int} {neg : Bool} {B : Option Addr} {d m : Nat} (hp : Blk w p) (hx : Z w q x) (hn : Mg w B d (D m)) (h1 : bl x.natAbs ≤ 536870912) (h2 : bl m ≤ 536870912) :
    Calls Try.prog 119 #[.pointer (some ⟨p, 0, none⟩), .pointer (some ⟨q, 0, none⟩), .bool neg, .slice B (D m).length d] w (Puts w p (x + sv neg m)) := by
  obtain ⟨A, c, k0, k1, hm, hq⟩ := Z.open hx
  have hadd := bl_add_le x.natAbs m
  have hA := fun (W : World) (hb : Below w.heap.size w W) => (cAdd (hm.below hb) (hn.below hb) (by omega) (by omega)).mono fun e w' h => GivesMg.of hb h
  have hC := fun (W : World) (hb : Below w.heap.size w W) => cCmp (hm.below hb) (hn.below hb) (by omega) (by omega)
  by_cases hs : decide (x < 0) = neg
  · -- one sign
    have e : (if neg = true then -((x.natAbs + m : Nat) : Int) else ((x.natAbs + m : Nat) : Int)) = x + sv neg m := by
      rw [← sv_abs x, hs]; unfold sv
      cases neg <;> simp <;> omega
    have hP := fun (w1 : World) (A' : Option Addr) (c' : Nat) h1 h2 => put_of (w1 := w1) (A := A') (c := c') (neg := neg) (n := x.natAbs + m) hp h1 h2 (by omega)
    rw [e] at hP
    rw [hs] at k0
    have HP := Lib.hid hP
    have HA := Lib.hid hA
    clear hA hC hP e hs hadd h1 h2 hm hn hx hp
    cases neg
    all_goals
      go_enter Try.func119, Try.ntmps119
      go_wp2_with fail
      refine (HA.out _ (Below.refl _ _)).mono ?_
      rintro e w1 ⟨A', c', rfl, hm', hb'⟩
      have HPM := Lib.hid (HP.out w1 A' c' hb' hm')
      clear hm' hb'
      go_wp2_with fail
      refine HPM.out.mono ?_
      rintro e w2 ⟨rfl, hz2, hg2⟩
      have HE := Lib.hid (show Puts w p _ _ w2 from ⟨rfl, hz2, hg2⟩)
      clear hz2 hg2
      go_wp2
      go_ret
      exact HE.out
  · have hneq : neg = !decide (x < 0) := by cases neg <;> cases h : decide (x < 0) <;> simp_all
    by_cases hge : m ≤ x.natAbs
    · have hS := fun (W : World) (hb : Below w.heap.size w W) => (cSub (hm.below hb) (hn.below hb) (by omega) hge).mono fun e w' h => GivesMg.of hb h
      have hmo := bl_mono (Nat.sub_le x.natAbs m)
      have e : (if decide (x < 0) = true then -((x.natAbs - m : Nat) : Int) else ((x.natAbs - m : Nat) : Int)) = x + sv neg m := by
        rw [hneq]; unfold sv
        by_cases h : x < 0 <;> simp [h] <;> omega
      have hP := fun (w1 : World) (A' : Option Addr) (c' : Nat) h1 h2 => put_of (w1 := w1) (A := A') (c := c') (neg := decide (x < 0)) (n := x.natAbs - m) hp h1 h2 (by omega)
      rw [e] at hP
      have es : sgn ((x.natAbs : Int) - m) = sgn ((x.natAbs - m : Nat) : Int) := by congr 1; omega
      have es0 : 0 ≤ sgn ((x.natAbs : Int) - m) := by unfold sgn; split <;> (try split) <;> omega
      have HP := Lib.hid hP
      have HS := Lib.hid hS
      have HC := Lib.hid hC
      clear hA hC hP hS e hs hadd h1 h2 hm hn hx hp es hmo hge
      generalize sgn ((x.natAbs : Int) - m) = sg at *
      rw [hneq] at *
      clear hneq
      generalize decide (x < 0) = b at *
      cases b
      all_goals
        go_enter Try.func119, Try.ntmps119
        go_wp2_with fail
        refine (HC.out _ (Below.refl _ _)).mono ?_
        rintro e w1 ⟨rfl, n, rfl⟩
        go_wp2_with fail
        go_region_with (first | (go_at_call 117; refine (HS.out _ (by first | exact below_drawn _ | exact (below_drawn _).drew)).mono ?_; rintro e w1 ⟨A', c', rfl, hm', hb'⟩; have HPM := Lib.hid (HP.out w1 A' c' hb' hm'); have k0' := (hb'.cell (p := ⟨q, 0, none⟩) hq).trans k0; clear hm' hb') | (go_at_call 113; refine HPM.out.mono ?_; rintro e w2 ⟨rfl, hz2, hg2⟩; have HE := Lib.hid (show Puts w p _ _ w2 from ⟨rfl, hz2, hg2⟩); clear hz2 hg2))
        all_goals go_wp2
        all_goals go_ret
        all_goals exact HE.out
    · have hS := fun (W : World) (hb : Below w.heap.size w W) => (cSub (hn.below hb) (hm.below hb) (by omega) (by omega)).mono fun e w' h => GivesMg.of hb h
      have hmo := bl_mono (Nat.sub_le m x.natAbs)
      have e : (if neg = true then -((m - x.natAbs : Nat) : Int) else ((m - x.natAbs : Nat) : Int)) = x + sv neg m := by
        rw [hneq]; unfold sv
        by_cases h : x < 0 <;> simp [h] <;> omega
      have hP := fun (w1 : World) (A' : Option Addr) (c' : Nat) h1 h2 => put_of (w1 := w1) (A := A') (c := c') (neg := neg) (n := m - x.natAbs) hp h1 h2 (by omega)
      rw [e] at hP
      have es : sgn ((x.natAbs : Int) - m) = -1 := by unfold sgn; rw [if_pos (by omega)]
      rw [es] at hC
      have HP := Lib.hid hP
      have HS := Lib.hid hS
      have HC := Lib.hid hC
      clear hA hC hP hS e hs hadd h1 h2 hm hn hx hp es hmo hge
      rw [hneq] at *
      clear hneq
      generalize decide (x < 0) = b at *
      cases b
      all_goals
        go_enter Try.func119, Try.ntmps119
        go_wp2_with fail
        refine (HC.out _ (Below.refl _ _)).mono ?_
        rintro e w1 ⟨rfl, n, rfl⟩
        go_wp2_with fail
        refine (HS.out _ (below_drawn _)).mono ?_
        rintro e w1 ⟨A', c', rfl, hm', hb'⟩
        have HPM := Lib.hid (HP.out w1 A' c' hb' hm')
        clear hm' hb'
        go_wp2_with fail
        refine HPM.out.mono ?_
        rintro e w2 ⟨rfl, hz2, hg2⟩
        have HE := Lib.hid (show Puts w p _ _ w2 from ⟨rfl, hz2, hg2⟩)
        clear hz2 hg2
        go_wp2
        go_ret
        exact HE.out
end Go.Proofs.Ytjddhnjjeomfjaa.Mi
end
section
set_option linter.unusedVariables false
set_option linter.unusedSimpArgs false
namespace Go.Proofs.Ytjddhnjjeomfjaa.Mj
open Go.RowKit Go.Proofs.YtjddhnjjeomfjaaW.PrintWords Go.Proofs.Ytjddhnjjeomfjaa.PW Go.Proofs.Ytjddhnjjeomfjaa.Pc Go.Proofs.Ytjddhnjjeomfjaa.Ma Go.Proofs.Ytjddhnjjeomfjaa.Mb Go.Proofs.Ytjddhnjjeomfjaa.Mc Go.Proofs.Ytjddhnjjeomfjaa.Md Go.Proofs.Ytjddhnjjeomfjaa.Me Go.Proofs.Ytjddhnjjeomfjaa.Mi Dg
open Pm (sgn)
theorem Puts.of {w W w' : World} {p : Nat} {z : Int} {e : Ending} (hb : Below w.heap.size w W) (h : Puts W p z e w') : Puts w p z e w' := Mc.Puts.below hb h
set_option maxHeartbeats 1600000 in
theorem add {w : World} {p q s : Nat} {x y : Int} (hp : Blk w p) (hx : Z w q x) (hy : Z w s y) (h1 : bl x.natAbs ≤ 536870912) (h2 : bl y.natAbs ≤ 536870912) :
    Calls Try.prog 75 #[.pointer (some ⟨p, 0, none⟩), .pointer (some ⟨q, 0, none⟩), .pointer (some ⟨s, 0, none⟩)] w (Puts w p (x + y)) := by
  obtain ⟨B, d, j0, j1, hn, hs⟩ := Z.open hy
  have hP := fun (W : World) (hb : Below w.heap.size w W) => (plus (neg := decide (y < 0)) (hp.below hb) (hx.below hb) (hn.below hb) h1 h2).mono fun e w' h => Puts.of hb h
  rw [sv_abs] at hP
  have HP := Lib.hid hP
  clear hP hn h1 h2 hp hx hy
  generalize decide (y < 0) = b at *
  go_enter Try.func75, Try.ntmps75
  go_wp2
  go_region_with (go_at_call 119; refine (HP.out _ (by first | exact Below.refl _ _ | exact (Below.refl _ _).drew)).mono ?_; rintro e w2 ⟨rfl, hz2, hg2⟩; have HE := Lib.hid (show Puts w p (x + y) _ w2 from ⟨rfl, hz2, hg2⟩); clear hz2 hg2)
  all_goals go_wp2
  all_goals go_ret
  all_goals exact HE.out
set_option maxHeartbeats 1600000 in
theorem sub {w : World} {p q s : Nat} {x y : Int} (hp : Blk w p) (hx : Z w q x) (hy : Z w s y) (h1 : bl x.natAbs ≤ 536870912) (h2 : bl y.natAbs ≤ 536870912) :
    Calls Try.prog 71 #[.pointer (some ⟨p, 0, none⟩), .pointer (some ⟨q, 0, none⟩), .pointer (some ⟨s, 0, none⟩)] w (Puts w p (x - y)) := by
  obtain ⟨B, d, j0, j1, hn, hs⟩ := Z.open hy
  have hP := fun (W : World) (hb : Below w.heap.size w W) => (plus (neg := !decide (y < 0)) (hp.below hb) (hx.below hb) (hn.below hb) h1 h2).mono fun e w' h => Puts.of hb h
  rw [show sv (!decide (y < 0)) y.natAbs = -y from natAbs_neg_if y, ← Int.sub_eq_add_neg] at hP
  have HP := Lib.hid hP
  clear hP hn h1 h2 hp hx hy
  generalize decide (y < 0) = b at *
  go_enter Try.func71, Try.ntmps71
  go_wp2
  go_region_with (go_at_call 119; refine (HP.out _ (by first | exact Below.refl _ _ | exact (Below.refl _ _).drew)).mono ?_; rintro e w2 ⟨rfl, hz2, hg2⟩; have HE := Lib.hid (show Puts w p (x - y) _ w2 from ⟨rfl, hz2, hg2⟩); clear hz2 hg2)
  all_goals go_wp2
  all_goals go_ret
  all_goals exact HE.out
theorem mul_sign (x y : Int) : (if (decide (x < 0) != decide (y < 0)) = true then -((x.natAbs * y.natAbs : Nat) : Int) else ((x.natAbs * y.natAbs : Nat) : Int)) = x * y := by
  rw [Int.natCast_mul]
  by_cases hx : x < 0 <;> by_cases hy : y < 0
  · rw [show (x.natAbs : Int) = -x by omega, show (y.natAbs : Int) = -y by omega]; simp [hx, hy, Int.neg_mul_neg]
  · rw [show (x.natAbs : Int) = -x by omega, show (y.natAbs : Int) = y by omega]; simp [hx, hy, Int.neg_mul]
  · rw [show (x.natAbs : Int) = x by omega, show (y.natAbs : Int) = -y by omega]; simp [hx, hy, Int.mul_neg]
  · rw [show (x.natAbs : Int) = x by omega, show (y.natAbs : Int) = y by omega]; simp [hx, hy]
set_option maxHeartbeats 1600000 in
theorem mul {w : World} {p q s : Nat} {x y : Int} (hp : Blk w p) (hx : Z w q x) (hy : Z w s y) (h : bl x.natAbs + bl y.natAbs ≤ 536870912) (hpq : p ≠ q) (hps : p ≠ s) :
    Calls Try.prog 128 #[.pointer (some ⟨p, 0, none⟩), .pointer (some ⟨q, 0, none⟩), .pointer (some ⟨s, 0, none⟩)] w (Puts w p (x * y)) := by
  obtain ⟨A, c, k0, k1, hm, hq⟩ := Z.open hx
  obtain ⟨B, d, j0, j1, hn, hs⟩ := Z.open hy
  have hbl := bl_mul_le x.natAbs y.natAbs
  have hL := fun (W : World) (hb : Below w.heap.size w W) => (cMul (hm.below hb) (hn.below hb) (by omega)).mono fun e w' h => GivesMg.of hb h
  have hP := fun (w1 : World) (A' : Option Addr) (c' : Nat) h1 h2 => put_of (w1 := w1) (A := A') (c := c') (neg := decide (x < 0) != decide (y < 0)) (n := x.natAbs * y.natAbs) hp h1 h2 (by omega)
  rw [mul_sign] at hP
  have hK : ∀ w1, w.grownBy w1 (some p) → (w1.cell? ⟨q, 0, none⟩ = some (.bool (decide (x < 0))) ∧ w1.cell? ⟨q, 1, none⟩ = some (.slice A (D x.natAbs).length c) ∧ w1.cell? ⟨s, 0, none⟩ = some (.bool (decide (y < 0))) ∧ w1.cell? ⟨s, 1, none⟩ = some (.slice B (D y.natAbs).length d)) := fun w1 hg =>
    ⟨hg.cell k0 (by simp; omega), hg.cell k1 (by simp; omega), hg.cell j0 (by simp; omega), hg.cell j1 (by simp; omega)⟩
  have HL := Lib.hid hL
  have HP := Lib.hid hP
  have HK := Lib.hid hK
  clear hK hL hP h hbl hm hn hp hx hy hpq hps
  generalize hb1 : decide (x < 0) = b1 at *
  generalize hb2 : decide (y < 0) = b2 at *
  clear hb1 hb2
  go_enter Try.func128, Try.ntmps128
  go_wp2
  go_region_held3 (fun w' => w'.cell? ⟨q, 0, none⟩ = some (.bool b1) ∧ w'.cell? ⟨q, 1, none⟩ = some (.slice A (D x.natAbs).length c) ∧ w'.cell? ⟨s, 0, none⟩ = some (.bool b2) ∧ w'.cell? ⟨s, 1, none⟩ = some (.slice B (D y.natAbs).length d)) (go_keep)
    (first | (go_at_call 141; refine (HL.out _ (by first | exact Below.refl _ _ | exact (Below.refl _ _).drew)).mono ?_; rintro e w1 ⟨A', c', rfl, hm', hb'⟩; have HPM := Lib.hid (HP.out w1 A' c' hb' hm'); obtain ⟨a0, a1, a2, a3⟩ := HK.out w1 (grown_below hb' _); clear hm' hb') | (go_at_call 113; refine HPM.out.mono ?_; rintro e w2 ⟨rfl, hz2, hg2⟩; obtain ⟨b0, b3, b4, b5⟩ := HK.out w2 hg2; have HE := Lib.hid (show Puts w p (x * y) _ w2 from ⟨rfl, hz2, hg2⟩); clear hz2 hg2))
  all_goals go_wp2
  all_goals go_ret
  all_goals exact HE.out
end Go.Proofs.Ytjddhnjjeomfjaa.Mj
end
section
set_option linter.unusedVariables false
set_option linter.unusedSimpArgs false
namespace Go.Proofs.Ytjddhnjjeomfjaa.Mk
open Go.RowKit Go.Proofs.YtjddhnjjeomfjaaW.PrintWords Go.Proofs.Ytjddhnjjeomfjaa.PW Go.Proofs.Ytjddhnjjeomfjaa.Pc Go.Proofs.Ytjddhnjjeomfjaa.Ma Go.Proofs.Ytjddhnjjeomfjaa.Mb Go.Proofs.Ytjddhnjjeomfjaa.Mc Go.Proofs.Ytjddhnjjeomfjaa.Md Go.Proofs.Ytjddhnjjeomfjaa.Me Go.Proofs.Ytjddhnjjeomfjaa.Mi Go.Proofs.Ytjddhnjjeomfjaa.Mj Dg
open Pm (sgn)
def lw (n k : Nat) : Int := val 4294967296 (((D n).take 2).drop k)
theorem lw_zero (n : Nat) : lw n 0 = ((n % 18446744073709551616 : Nat) : Int) := by
  unfold lw
  rw [List.drop_zero]
  have := (val_div_mod (by decide) (D_dig n) 2).2
  rw [D_val] at this
  rw [← this]
  rfl
theorem lw_end (n k : Nat) (h : 2 ≤ k ∨ (D n).length ≤ k) : lw n k = 0 := by
  unfold lw
  rw [List.drop_of_length_le (by simp; omega)]
  rfl
theorem lw_bd (n k : Nat) (h : 0 < k) : 0 ≤ lw n k ∧ lw n k < 4294967296 := by
  unfold lw
  have hd := ((D_dig n).take 2).drop k
  have h1 := val_nonneg hd
  have h2 := val_lt (by decide) hd
  refine ⟨h1, ?_⟩
  have h3 : (((D n).take 2).drop k).length ≤ 1 := by simp; omega
  have h4 : ((4294967296 : Nat) : Int) ^ (((D n).take 2).drop k).length ≤ 4294967296 := by
    rcases Nat.lt_or_ge (((D n).take 2).drop k).length 1 with h | h
    · have : (((D n).take 2).drop k).length = 0 := by omega
      rw [this]; decide
    · have : (((D n).take 2).drop k).length = 1 := by omega
      rw [this]; decide
  omega
theorem lw_step (n k : Nat) (h : k < 2) (hk : k < (D n).length) : bits .or .u64 (IntKind.u64.wrap (lw n (k + 1) * 4294967296)) ((D n).getD k 0) = lw n k := by
  have hb := lw_bd n (k + 1) (by omega)
  have hd := (D_dig n).all0 (by decide) k
  have e : lw n k = (D n).getD k 0 + 4294967296 * lw n (k + 1) := by
    unfold lw
    have := val_drop' (B := 4294967296) ((D n).take 2) k
    rw [this]
    congr 1
    simp [List.getD, List.getElem?_take, h]
  rw [Pn.u64_id (by omega) (by omega), e]
  have := Po.or_high (x := (D n).getD k 0) (y := lw n (k + 1)) hd.1 (by omega) hb.1 hb.2
  rw [← this]
  obtain ⟨a, ha⟩ := Int.eq_ofNat_of_zero_le hd.1
  obtain ⟨b, hb'⟩ := Int.eq_ofNat_of_zero_le hb.1
  have hd2 : a < 4294967296 := by have := hd.2; omega
  have hb2 : b < 4294967296 := by have := hb.2; omega
  rw [ha, hb']
  have e2 : (b : Int) * 4294967296 = ((b * 4294967296 : Nat) : Int) := by simp
  have h1 : a < 2 ^ 64 := by omega
  have h2 : b * 4294967296 < 2 ^ 64 := by omega
  rw [e2, (bits_nat .u64 64 (by decide) Po.wraps_u64 _ _ h2 h1).2, (bits_nat .u64 64 (by decide) Po.wraps_u64 _ _ h1 h2).2, Nat.or_comm]
set_option maxHeartbeats 1600000 in
theorem low {w : World} {q : Nat} {z : Int} (hz : Z w q z) : Calls Try.prog 121 #[.pointer (some ⟨q, 0, none⟩)] w fun e w' => e = .returned (.int .u64 ((z.natAbs % 18446744073709551616 : Nat) : Int)) ∧ w = w' := by
  obtain ⟨A, c, k0, k1, hm, hq⟩ := Z.open hz
  have hres := lw_zero z.natAbs
  have hcell : ∀ k, k < (D z.natAbs).length → ∃ ad, A = some ad ∧ w.cell? (ad.add k) = some (.int .u32 ((D z.natAbs).getD k 0)) := fun k hk => by
    obtain ⟨ad, hA, hc⟩ := Kd.at_int hm.1 (k : Int) (by omega) (by omega)
    rw [Int.toNat_natCast, rdN] at hc
    exact ⟨ad, hA, hc⟩
  have hmax : (D z.natAbs).length ≤ 9223372036854775807 := hm.1.2.1
  have hst := fun k h1 h2 => lw_step z.natAbs k h1 h2
  have hen := fun k h => lw_end z.natAbs k h
  have hdd := (D_dig z.natAbs).all0 (by decide)
  have hlb := fun k h => lw_bd z.natAbs k h
  have HR := Lib.hid hres
  have HC := Lib.hid hcell
  have HS := Lib.hid hst
  have HE := Lib.hid hen
  have HD := Lib.hid hdd
  have HLB := Lib.hid hlb
  clear hres hcell hm hz hst hen hdd hlb
  generalize hln : (D z.natAbs).length = n at *
  clear hln
  obtain ⟨m, hm2, hmn, hmm⟩ : ∃ m : Nat, m ≤ 2 ∧ m ≤ n ∧ (2 ≤ m ∨ n ≤ m) := ⟨min n 2, by omega, by omega, by omega⟩
  have hst0 : lw z.natAbs m = 0 := HE.out m hmm
  have HST := Lib.hid hst0
  clear hst0
  by_cases hlt : n < 2
  · obtain rfl : n = m := by omega
    go_enter Try.func121, Try.ntmps121
    go_wp2_with fail
    go_loop [3, 4] (fun u i => ∃ k : Nat, k ≤ n ∧ i = .int .i64 ((k : Int) - 1) ∧ u = .int .u64 (lw z.natAbs k)) (fun _ i => (intOf i + 1).toNat)
    case atStart => exact ⟨n, Nat.le_refl _, rfl, by rw [HST.out]⟩
    case round =>
      obtain ⟨k, hk, rfl, rfl⟩ := hrel
      cases k with
      | zero =>
        have e : ((0 : Nat) : Int) - 1 = -1 := rfl
        rw [e]
        go_wp2
        go_ret
        exact ⟨by show Ending.returned (Value.int .u64 (lw z.natAbs 0)) = _; rw [HR.out]; simp, rfl⟩
      | succ k =>
        have e : ((k + 1 : Nat) : Int) - 1 = (k : Int) := by omega
        rw [e]
        clear e
        obtain ⟨ad, hA, hc⟩ := HC.out k (by omega)
        subst hA
        have hs := Lib.hid (HS.out k (by omega) (by omega))
        have hd := HD.out k
        have hb := HLB.out (k + 1) (by omega)
        have hx := Pn.u64_id (n := lw z.natAbs (k + 1) * 4294967296) (by omega) (by omega)
        have hs2 := hs.out
        rw [hx] at hs2
        have HS2 := Lib.hid hs2
        clear hs hs2 hx
        generalize hl1 : lw z.natAbs (k + 1) = l1 at *
        generalize hd1 : (D z.natAbs).getD k 0 = d1 at *
        clear hl1 hd1
        go_wp2
        go_round
        case rel => exact ⟨k, by omega, rfl, by rw [HS2.out]⟩
        case measure => (simp [intOf]) <;> omega
  · obtain rfl : m = 2 := by omega
    by_cases hn2 : n = 2
    · subst hn2
      go_enter Try.func121, Try.ntmps121
      go_wp2_with fail
      go_loop [3, 4] (fun u i => ∃ k : Nat, k ≤ 2 ∧ i = .int .i64 ((k : Int) - 1) ∧ u = .int .u64 (lw z.natAbs k)) (fun _ i => (intOf i + 1).toNat)
      case atStart => exact ⟨2, Nat.le_refl _, rfl, by rw [HST.out]⟩
      case round =>
        obtain ⟨k, hk, rfl, rfl⟩ := hrel
        cases k with
        | zero =>
          have e : ((0 : Nat) : Int) - 1 = -1 := rfl
          rw [e]
          go_wp2
          go_ret
          exact ⟨by show Ending.returned (Value.int .u64 (lw z.natAbs 0)) = _; rw [HR.out]; simp, rfl⟩
        | succ k =>
          have e : ((k + 1 : Nat) : Int) - 1 = (k : Int) := by omega
          rw [e]
          clear e
          obtain ⟨ad, hA, hc⟩ := HC.out k (by omega)
          subst hA
          have hs := Lib.hid (HS.out k (by omega) (by omega))
          have hd := HD.out k
          have hb := HLB.out (k + 1) (by omega)
          have hx := Pn.u64_id (n := lw z.natAbs (k + 1) * 4294967296) (by omega) (by omega)
          have hs2 := hs.out
          rw [hx] at hs2
          have HS2 := Lib.hid hs2
          clear hs hs2 hx
          generalize hl1 : lw z.natAbs (k + 1) = l1 at *
          generalize hd1 : (D z.natAbs).getD k 0 = d1 at *
          clear hl1 hd1
          go_wp2
          go_round
          case rel => exact ⟨k, by omega, rfl, by rw [HS2.out]⟩
          case measure => (simp [intOf]) <;> omega

    · have hn3 : 2 < n := by omega
      clear hlt
      go_enter Try.func121, Try.ntmps121
      go_wp2_with fail
      go_loop [3, 4] (fun u i => ∃ k : Nat, k ≤ 2 ∧ i = .int .i64 ((k : Int) - 1) ∧ u = .int .u64 (lw z.natAbs k)) (fun _ i => (intOf i + 1).toNat)
      case atStart => exact ⟨2, Nat.le_refl _, rfl, by rw [HST.out]⟩
      case round =>
        obtain ⟨k, hk, rfl, rfl⟩ := hrel
        cases k with
        | zero =>
          have e : ((0 : Nat) : Int) - 1 = -1 := rfl
          rw [e]
          go_wp2
          go_ret
          exact ⟨by show Ending.returned (Value.int .u64 (lw z.natAbs 0)) = _; rw [HR.out]; simp, rfl⟩
        | succ k =>
          have e : ((k + 1 : Nat) : Int) - 1 = (k : Int) := by omega
          rw [e]
          clear e
          obtain ⟨ad, hA, hc⟩ := HC.out k (by omega)
          subst hA
          have hs := Lib.hid (HS.out k (by omega) (by omega))
          have hd := HD.out k
          have hb := HLB.out (k + 1) (by omega)
          have hx := Pn.u64_id (n := lw z.natAbs (k + 1) * 4294967296) (by omega) (by omega)
          have hs2 := hs.out
          rw [hx] at hs2
          have HS2 := Lib.hid hs2
          clear hs hs2 hx
          generalize hl1 : lw z.natAbs (k + 1) = l1 at *
          generalize hd1 : (D z.natAbs).getD k 0 = d1 at *
          clear hl1 hd1
          go_wp2
          go_round
          case rel => exact ⟨k, by omega, rfl, by rw [HS2.out]⟩
          case measure => (simp [intOf]) <;> omega
theorem natAbs_mod {z : Int} (h0 : -9223372036854775808 ≤ z) (h1 : z ≤ 9223372036854775807) : ((z.natAbs % 18446744073709551616 : Nat) : Int) = z.natAbs := by omega
set_option maxHeartbeats 800000 in
theorem int64 {w : World} {q : Nat} {z : Int} (hz : Z w q z) (h0 : -9223372036854775808 ≤ z) (h1 : z ≤ 9223372036854775807) : Calls Try.prog 76 #[.pointer (some ⟨q, 0, none⟩)] w fun e w' => e = .returned (.int .i64 z) ∧ w = w' := by
  obtain ⟨A, c, k0, k1, hm, hq⟩ := Z.open hz
  have hl := low hz
  rw [natAbs_mod h0 h1] at hl
  have HL := Lib.hid hl
  clear hl hm hz
  by_cases hn : z < 0
  · have e : IntKind.i64.wrap (-(IntKind.i64.wrap (z.natAbs : Int))) = z := by rw [IntKind.wrap_i64, IntKind.wrap_i64]; omega
    have e2 : wrap64 (-(wrap64 (z.natAbs : Int))) = z := by unfold wrap64; omega
    rw [show decide (z < 0) = true by simpa using hn] at k0
    have E := Lib.hid e2
    clear e e2 h0 h1 hn
    generalize (z.natAbs : Int) = a at *
    go_enter Try.func76, Try.ntmps76
    go_wp2_with fail
    refine HL.out.mono ?_
    rintro e w1 ⟨rfl, rfl⟩
    go_wp2
    go_ret
    exact ⟨by rw [← E.out]; rfl, rfl⟩
  · have e2 : wrap64 (z.natAbs : Int) = z := by unfold wrap64; omega
    rw [show decide (z < 0) = false by simpa using hn] at k0
    have E := Lib.hid e2
    clear e2 h0 h1 hn
    generalize (z.natAbs : Int) = a at *
    go_enter Try.func76, Try.ntmps76
    go_wp2_with fail
    refine HL.out.mono ?_
    rintro e w1 ⟨rfl, rfl⟩
    go_wp2
    go_ret
    exact ⟨by rw [← E.out]; rfl, rfl⟩
theorem D_one : D 1 = [1] := by
  have := D_of (l := [1]) (Dig.cons (by decide) (by decide) Dig.nil) (by intro _ h; simp at h)
  exact this
theorem Mg_one {w : World} : Mg (w.alloc (.cells #[.int .u32 1] 119)) (some ⟨w.heap.size, 0, none⟩) 1 (D 1) := by
  rw [D_one]
  exact Mg.row (xs := [1]) (heap_alloc_new w _) rfl (by simp)
theorem shr_neg {z : Int} (hz : z < 0) (n : Nat) : -(((z.natAbs - 1) / 2 ^ n + 1 : Nat) : Int) = z / 2 ^ n := by
  obtain ⟨m, hm⟩ : ∃ m : Nat, z = Int.negSucc m := ⟨z.natAbs - 1, by omega⟩
  subst hm
  have e : ((2 : Int) ^ n) = ((2 ^ n : Nat) : Int) := by simp
  rw [Int.negSucc_ediv _ (by rw [e]; have := Nat.two_pow_pos n; omega), e]
  show -(((m + 1 - 1) / 2 ^ n + 1 : Nat) : Int) = _
  rw [Nat.add_sub_cancel]
  rfl
theorem shr_pos {z : Int} (hz : ¬ z < 0) (n : Nat) : ((z.natAbs / 2 ^ n : Nat) : Int) = z / 2 ^ n := by
  have e : ((2 : Int) ^ n) = ((2 ^ n : Nat) : Int) := by simp
  obtain ⟨m, rfl⟩ := Int.eq_ofNat_of_zero_le (show 0 ≤ z by omega)
  rw [e, Int.natAbs_natCast]
  rfl
set_option maxHeartbeats 1600000 in
theorem rsh {w : World} {p q : Nat} {z : Int} {n : Nat} (hp : Blk w p) (hz : Z w q z) (h1 : bl z.natAbs ≤ 268435456) (h2 : n ≤ 268435456) :
    Calls Try.prog 70 #[.pointer (some ⟨p, 0, none⟩), .pointer (some ⟨q, 0, none⟩), .int .u64 n] w (Puts w p (z / 2 ^ n)) := by
  obtain ⟨A, c, k0, k1, hm, hq⟩ := Z.open hz
  by_cases hn : z < 0
  · have b1 := bl_mono (Nat.sub_le z.natAbs 1)
    have b2 := bl_mono (Nat.div_le_self (z.natAbs - 1) (2 ^ n))
    have b3 := bl_add_le ((z.natAbs - 1) / 2 ^ n) 1
    have b4 : bl 1 = 1 := rfl
    have hS := fun (W : World) (hb : Below w.heap.size w W) => (cSub ((hm.below hb).below (below_alloc W _)) (Mg_one (w := W)) (by omega) (by omega)).mono fun e w' h => GivesMg.of (below_then hb (below_alloc W _)) h
    have hR := fun (W : World) (A' : Option Addr) (c' : Nat) (hb : Below w.heap.size w W) (hm' : Mg W A' c' (D (z.natAbs - 1))) => (cRight hm' (n := n) (by omega) (by omega)).mono fun e w' h => GivesMg.of hb h
    have hA := fun (W : World) (A' : Option Addr) (c' : Nat) (hb : Below w.heap.size w W) (hm' : Mg W A' c' (D ((z.natAbs - 1) / 2 ^ n))) => (cAdd (hm'.below (below_alloc W _)) (Mg_one (w := W)) (by omega) (by omega)).mono fun e w' h => GivesMg.of (below_then hb (below_alloc W _)) h
    have hP := fun (w1 : World) (A' : Option Addr) (c' : Nat) h1 h2 => put_of (w1 := w1) (A := A') (c := c') (neg := true) (n := (z.natAbs - 1) / 2 ^ n + 1) hp h1 h2 (by omega)
    simp only [if_true] at hP
    rw [shr_neg hn] at hP
    rw [show decide (z < 0) = true by simpa using hn] at k0
    have l1 : (D 1).length = 1 := by rw [D_one]; rfl
    rw [l1] at hS hA
    have HS := Lib.hid hS
    have HR := Lib.hid hR
    have HA := Lib.hid hA
    have HP := Lib.hid hP
    clear hS hR hA hP b1 b2 b3 b4 h1 h2 hm hp hz hn l1
    go_enter Try.func70, Try.ntmps70
    go_wp2_with fail
    refine (HS.out _ (Below.refl _ _)).mono ?_
    rintro e w1 ⟨A1, c1, rfl, hm1, hb1⟩
    have HR1 := Lib.hid (HR.out w1 A1 c1 hb1 hm1)
    clear hm1 hb1
    go_wp2_with fail
    refine HR1.out.mono ?_
    rintro e w2 ⟨A2, c2, rfl, hm2, hb2⟩
    have HA1 := Lib.hid (HA.out w2 A2 c2 hb2 hm2)
    clear hm2 hb2
    go_wp2_with fail
    refine HA1.out.mono ?_
    rintro e w3 ⟨A3, c3, rfl, hm3, hb3⟩
    have HP1 := Lib.hid (HP.out w3 A3 c3 hb3 hm3)
    clear hm3 hb3
    go_wp2_with fail
    refine HP1.out.mono ?_
    rintro e w4 ⟨rfl, hz2, hg2⟩
    have HE := Lib.hid (show Puts w p (z / 2 ^ n) _ w4 from ⟨rfl, hz2, hg2⟩)
    clear hz2 hg2
    go_wp2
    go_ret
    exact HE.out
  · have b2 := bl_mono (Nat.div_le_self z.natAbs (2 ^ n))
    have hR := fun (W : World) (hb : Below w.heap.size w W) => (cRight (hm.below hb) (n := n) (by omega) (by omega)).mono fun e w' h => GivesMg.of hb h
    have hP := fun (w1 : World) (A' : Option Addr) (c' : Nat) h1 h2 => put_of (w1 := w1) (A := A') (c := c') (neg := false) (n := z.natAbs / 2 ^ n) hp h1 h2 (by omega)
    simp only [Bool.false_eq_true, if_false] at hP
    rw [shr_pos hn] at hP
    rw [show decide (z < 0) = false by simpa using hn] at k0
    have HR := Lib.hid hR
    have HP := Lib.hid hP
    clear hR hP b2 h1 h2 hm hp hz hn
    go_enter Try.func70, Try.ntmps70
    go_wp2_with fail
    refine (HR.out _ (Below.refl _ _)).mono ?_
    rintro e w1 ⟨A1, c1, rfl, hm1, hb1⟩
    have HP1 := Lib.hid (HP.out w1 A1 c1 hb1 hm1)
    clear hm1 hb1
    go_wp2_with fail
    refine HP1.out.mono ?_
    rintro e w4 ⟨rfl, hz2, hg2⟩
    have HE := Lib.hid (show Puts w p (z / 2 ^ n) _ w4 from ⟨rfl, hz2, hg2⟩)
    clear hz2 hg2
    go_wp2
    go_ret
    exact HE.out
end Go.Proofs.Ytjddhnjjeomfjaa.Mk
end
section
namespace Go.Proofs.Ytjddhnjjeomfjaa.Ml
end Go.Proofs.Ytjddhnjjeomfjaa.Ml
end
section
set_option linter.unusedVariables false
set_option linter.unusedSimpArgs false
namespace Go.Proofs.Ytjddhnjjeomfjaa.Mn
open Go.RowKit Go.Proofs.YtjddhnjjeomfjaaW.PrintWords Go.Proofs.YtjddhnjjeomfjaaW.PrintLast Go.Proofs.YtjddhnjjeomfjaaW.PrintMore Go.Proofs.Ytjddhnjjeomfjaa.PW Go.Proofs.Ytjddhnjjeomfjaa.Pc Go.Proofs.Ytjddhnjjeomfjaa.Ma Go.Proofs.Ytjddhnjjeomfjaa.Mb Go.Proofs.Ytjddhnjjeomfjaa.Mc Go.Proofs.Ytjddhnjjeomfjaa.Md Go.Proofs.Ytjddhnjjeomfjaa.Me Go.Proofs.Ytjddhnjjeomfjaa.Mi Go.Proofs.Ytjddhnjjeomfjaa.Mj Go.Proofs.Ytjddhnjjeomfjaa.Mk Go.Proofs.Ytjddhnjjeomfjaa.Ml Dg
open Pm (sgn)
def ZF (w : World) (p : Nat) (z : Int) (v : Value) : Prop :=
  ∃ A c, w.heap[p]? = some (.cells #[.bool (decide (z < 0)), .slice A (D z.natAbs).length c] 89 (0, 0)) ∧ Mg w A c (D z.natAbs) ∧ ∀ ad, A = some ad → 0 < (D z.natAbs).length → some ad.block ≠ v.ownBlock
section
variable {w w1 : World} {p : Nat} {n : Int} {v v1 : Value}
theorem ZF.zz (h : ZF w p n v) : Z w p n := by
  obtain ⟨A, c, hb, hm, _⟩ := h
  exact ⟨A, c, hb, hm⟩
theorem ZF.of (h : Z w p n) : ZF w p n (.slice none 0 0) := by
  obtain ⟨A, c, hb, hm⟩ := h
  exact ⟨A, c, hb, hm, fun ad _ _ e => by simp [Value.ownBlock] at e⟩
theorem ZF.below (h : ZF w p n v) (hb : Below w.heap.size w w1) : ZF w1 p n v := by
  obtain ⟨A, c, h1, hm, hv⟩ := h
  exact ⟨A, c, (hb.block p (Array.getElem?_eq_some_iff.1 h1).1).trans h1, hm.below hb, hv⟩
theorem ZF.grown {q : Nat} (h : ZF w p n v) (hg : w.grownBy w1 (some q)) (hq : Blk w q) (hne : p ≠ q) : ZF w1 p n v := by
  obtain ⟨A, c, hb, hm, hv⟩ := h
  exact ⟨A, c, (hg.block p (Array.getElem?_eq_some_iff.1 hb).1 (by simpa using hne)).trans hb, hm.grown hg hq, hv⟩
theorem add_block (a : Addr) (k : Nat) : (a.add k).block = a.block := by
  unfold Addr.add
  split <;> rfl
theorem Mg.kept_at {A : Option Addr} {c : Nat} {xs : List Int} (h : Mg w A c xs) (hk : ∀ ad, A = some ad → 0 < xs.length → w1.heap[ad.block]? = w.heap[ad.block]?) : Mg w1 A c xs := by
  refine ⟨?_, h.2⟩
  obtain ⟨h1, h2, h3⟩ := h.1
  refine ⟨h1, h2, fun hn => ?_⟩
  obtain ⟨ad, hA, hc⟩ := h3 hn
  refine ⟨ad, hA, fun j p hp => ?_⟩
  obtain ⟨cs, hs, hR, hcell⟩ := hc j p hp
  refine ⟨cs, hs, hR, fun i u hu => ?_⟩
  rw [← hcell i u hu]
  exact World.cell?_of_block (w := w) (w' := w1) (a := ad.add (j * (Kd.int IntKind.u32).sz + i)) (by rw [add_block]; exact hk ad hA hn)
theorem Mg.lt {A : Option Addr} {c : Nat} {xs : List Int} (h : Mg w A c xs) (ad : Addr) (hA : A = some ad) (hn : 0 < xs.length) : ad.block < w.heap.size := by
  subst hA
  exact Kd.C_lt h.1 hn (by decide)
theorem ZF.after (h : ZF w p n v) (hpv : some p ≠ v.ownBlock) (hg : w.grownBy w1 v.ownBlock) (hat : v1.ownBlock = v.ownBlock ∨ ∃ b, v1.ownBlock = some b ∧ w.heap.size ≤ b) : ZF w1 p n v1 := by
  obtain ⟨A, c, hb, hm, hv⟩ := h
  refine ⟨A, c, (hg.block p (Array.getElem?_eq_some_iff.1 hb).1 hpv).trans hb, Mg.kept_at hm fun ad hA hn => hg.block _ (Mn.Mg.lt hm ad hA hn) (hv ad hA hn), fun ad hA hn => ?_⟩
  rcases hat with e | ⟨b, e, hle⟩
  · rw [e]; exact hv ad hA hn
  · rw [e]
    intro e2
    injection e2 with e2
    have := Mn.Mg.lt hm ad hA hn
    omega
theorem ZF.store {gw : Nat} {cs : Array Value} (h : ZF w p n v) (hw : w.heap[gw]? = some (.cells cs 31 (0, 0))) (hc : cs.size = 2) (h0 : ∀ x, cs[0]? ≠ some (.int .u32 x)) (h1 : ∀ x, cs[1]? ≠ some (.int .u32 x)) (i : Nat) (u : Value) : ZF (w.setCell ⟨gw, i, none⟩ u) p n v := by
  obtain ⟨A, c, hb, hm, hv⟩ := h
  have hne : p ≠ gw := by
    rintro rfl
    rw [hb] at hw
    injection hw with hw
    injection hw with _ hw
    exact absurd hw (by decide)
  refine ⟨A, c, (Below.heap_setCell _ _ _ _ hne).trans hb, Mg.kept_at hm fun ad hA hn => Below.heap_setCell _ _ _ _ ?_, hv⟩
  intro e
  have e : ad.block = gw := e
  obtain ⟨ad', hA', hc'⟩ := hm.1.2.2 hn
  rw [hA] at hA'
  injection hA' with hA'
  subst hA'
  obtain ⟨cs', hs, hR, hcell⟩ := hc' 0 _ (List.getElem?_eq_getElem hn)
  have hR' : cs' = [.int .u32 (D n.natAbs)[0]] := hR
  subst hR'
  have h4 := hcell 0 _ rfl
  rw [← e] at hw
  simp only [World.cell?, add_block, hw] at h4
  split at h4
  · cases h4
  · generalize (ad.add (0 * (Kd.int IntKind.u32).sz + 0)).off = o at h4
    match o, h4 with
    | 0, h4 => exact h0 _ h4
    | 1, h4 => exact h1 _ h4
    | n + 2, h4 =>
      rw [Array.getElem?_eq_none (by omega)] at h4
      cases h4
end
def PutsF (N : Nat) (w : World) (p : Nat) (z : Int) (e : Ending) (w' : World) : Prop :=
  Puts w p z e w' ∧ ∀ A n c, w'.cell? ⟨p, 1, none⟩ = some (.slice A n c) → ∀ ad, A = some ad → 0 < n → N ≤ ad.block
def St (w wr : World) (gw gr gm : Nat) (s : Int) (m k : Nat) (v : Value) (pre : List Int) : Prop :=
  wr.heap[gw]? = some (.cells #[.int .i64 s, v] 31 (0, 0)) ∧ Kd.R (Kd.int .i64) 2 wr w.heap.size (fun _ => True) v pre ∧ ZF wr gr (k : Int) v ∧ ZF wr gm 16777215 v ∧ Below w.heap.size w wr ∧ pre ++ L k = L m
section
variable {w wr w1 : World} {gw gr gm m k : Nat} {s : Int} {v v1 : Value} {pre : List Int}
theorem St.cell (h : St w wr gw gr gm s m k v pre) : wr.cell? ⟨gw, 1, none⟩ = some v := blk_cell h.1 1
theorem St.lt (h : St w wr gw gr gm s m k v pre) : gw < wr.heap.size := by
  have := h.1
  rw [Array.getElem?_eq_some_iff] at this
  exact this.1
theorem St.below (h : St w wr gw gr gm s m k v pre) (hb : Below wr.heap.size wr w1) : St w w1 gw gr gm s m k v pre :=
  ⟨(hb.block gw h.lt).trans h.1, Kd.R_below h.2.1 hb, h.2.2.1.below hb, h.2.2.2.1.below hb, below_then h.2.2.2.2.1 hb, h.2.2.2.2.2⟩
theorem ne_types {g p : Nat} {cs : Array Value} {t : TypeId} (h : wr.heap[g]? = some (.cells cs t (0, 0))) (hp : Blk wr p) (ht : t ≠ 89) : g ≠ p := by
  rintro rfl
  obtain ⟨b, A, n, c, hc⟩ := hp
  rw [h] at hc
  injection hc with hc
  injection hc with _ hc
  exact ht hc
theorem St.rest {k' : Nat} {e : Ending} (h : St w wr gw gr gm s m k v pre) (hp : PutsF wr.heap.size wr gr (k' : Int) e w1) (hne : gm ≠ gr) (hgr : w.heap.size ≤ gr) (he : pre ++ L k' = L m) : St w w1 gw gr gm s m k' v pre := by
  obtain ⟨⟨_, hz, hg⟩, hf⟩ := hp
  have hb := h.2.2.1.zz.blk
  refine ⟨(hg.block gw h.lt (by have := ne_types h.1 hb (by decide); simpa using this)).trans h.1, ?_, ?_, h.2.2.2.1.grown hg hb hne, below_grown h.2.2.2.2.1 hg hgr, he⟩
  · obtain ⟨b, A, n, c, hc⟩ := hb
    exact Kd.R_mono (Kd.R_grown (Kd.R_types h.2.1 hc (by decide)) hg (fun k hk => by have := hk.2; simpa using this)) (fun _ hk => hk.1)
  · obtain ⟨A, c, hzb, hm⟩ := hz
    refine ⟨A, c, hzb, hm, fun ad hA hn ho => ?_⟩
    have h1 := hf _ _ _ (blk_cell hzb 1) ad hA hn
    have h2 := Kd.R_lt h.2.1 _ ho.symm
    omega
theorem St.put {wr1 : World} {p : Int} {k' : Nat} (h : St w wr gw gr gm s m k v pre) (ho : Kd.R (Kd.int .i64) 2 wr1 w.heap.size (fun _ => True) v1 (pre ++ [p])) (hg : wr.grownBy wr1 v.ownBlock) (hat : v1.ownBlock = v.ownBlock ∨ ∃ b, v1.ownBlock = some b ∧ wr.heap.size ≤ b) (hb : Below w.heap.size w wr1) (hgw : w.heap.size ≤ gw) :
    wr1.frozen? ⟨gw, 1, none⟩ = false ∧ (wr1.setCell ⟨gw, 1, none⟩ v1).heap[gw]? = some (.cells #[.int .i64 s, v1] 31 (0, 0)) ∧ Kd.R (Kd.int .i64) 2 (wr1.setCell ⟨gw, 1, none⟩ v1) w.heap.size (fun _ => True) v1 (pre ++ [p]) ∧ ZF (wr1.setCell ⟨gw, 1, none⟩ v1) gr (k : Int) v1 ∧ ZF (wr1.setCell ⟨gw, 1, none⟩ v1) gm 16777215 v1 ∧ Below w.heap.size w (wr1.setCell ⟨gw, 1, none⟩ v1) := by
  have hgw1 : wr1.heap[gw]? = some (.cells #[.int .i64 s, v] 31 (0, 0)) := (hg.block gw h.lt (Kd.R_ne h.2.1 h.1 (by decide))).trans h.1
  obtain ⟨A, c, hv⟩ := Kd.R_slice h.2.1
  refine ⟨blk_frozen hgw1 1, blk_set hgw1 1 v1, Kd.R_set ho hgw1 (by decide) 1 v1, ?_, ?_, hb.setCell hgw _⟩
  · obtain ⟨b, B, n, d, hc⟩ := h.2.2.1.zz.blk
    exact (h.2.2.1.after (Kd.R_ne h.2.1 hc (by decide)) hg hat).store hgw1 rfl (by simp) (by subst hv; simp) 1 v1
  · obtain ⟨b, B, n, d, hc⟩ := h.2.2.2.1.zz.blk
    exact (h.2.2.2.1.after (Kd.R_ne h.2.1 hc (by decide)) hg hat).store hgw1 rfl (by simp) (by subst hv; simp) 1 v1
def Sr (w wr : World) (gw gr gm : Nat) (s : Int) (m k : Nat) (v : Value) (pre : List Int) : Prop :=
  St w wr gw gr gm s m k v pre ∧ wr.heap[w.heap.size]? = some (.cells #[.int .i64 0, .slice none 0 0] 31 (0, 0))
theorem Sr.lt (h : Sr w wr gw gr gm s m k v pre) : w.heap.size < wr.heap.size := (Array.getElem?_eq_some_iff.1 h.2).1
theorem Sr.below (h : Sr w wr gw gr gm s m k v pre) (hb : Below wr.heap.size wr w1) : Sr w w1 gw gr gm s m k v pre :=
  ⟨h.1.below hb, (hb.block _ h.lt).trans h.2⟩
theorem Sr.rest {k' : Nat} {e : Ending} (h : Sr w wr gw gr gm s m k v pre) (hp : PutsF wr.heap.size wr gr (k' : Int) e w1) (hne : gm ≠ gr) (hgr : w.heap.size < gr) (he : pre ++ L k' = L m) : Sr w w1 gw gr gm s m k' v pre :=
  ⟨h.1.rest hp hne (by omega) he, (hp.1.2.2.block _ h.lt (by simp; omega)).trans h.2⟩
def Sm (w wr : World) (gw gr gm : Nat) (s : Int) (k : Nat) (v : Value) (pre : List Int) : Prop :=
  wr.heap[gw]? = some (.cells #[.int .i64 s, v] 31 (0, 0)) ∧ Kd.R (Kd.int .i64) 2 wr w.heap.size (fun _ => True) v pre ∧ ZF wr gr (k : Int) v ∧ ZF wr gm 16777215 v ∧ Below w.heap.size w wr ∧ wr.heap[w.heap.size]? = some (.cells #[.int .i64 0, .slice none 0 0] 31 (0, 0))
theorem Sr.put {wr1 : World} {p : Int} (h : Sr w wr gw gr gm s m k v pre) (ho : Kd.R (Kd.int .i64) 2 wr1 w.heap.size (fun _ => True) v1 (pre ++ [p])) (hg : wr.grownBy wr1 v.ownBlock) (hat : v1.ownBlock = v.ownBlock ∨ ∃ b, v1.ownBlock = some b ∧ wr.heap.size ≤ b) (hb : Below w.heap.size w wr1) (hgw : w.heap.size < gw) :
    wr1.frozen? ⟨gw, 1, none⟩ = false ∧ (∃ u, wr1.cell? ⟨gw, 1, none⟩ = some u) ∧ Sm w (wr1.setCell ⟨gw, 1, none⟩ v1) gw gr gm s k v1 (pre ++ [p]) := by
  obtain ⟨h1, h2, h3, h4, h5, h6⟩ := h.1.put (k' := 0) ho hg hat hb (by omega)
  refine ⟨h1, ?_, h2, h3, h4, h5, h6, ?_⟩
  · have hgw1 : wr1.heap[gw]? = some (.cells #[.int .i64 s, v] 31 (0, 0)) := (hg.block gw h.1.lt (Kd.R_ne h.1.2.1 h.1.1 (by decide))).trans h.1.1
    exact ⟨_, blk_cell hgw1 1⟩
  · refine (Below.heap_setCell _ _ _ _ (by show w.heap.size ≠ gw; omega)).trans ?_
    exact (hg.block _ h.lt (Kd.R_ne h.1.2.1 h.2 (by decide))).trans h.2
theorem Sm.rest {k' : Nat} {e : Ending} (h : Sm w wr gw gr gm s k v pre) (hp : PutsF wr.heap.size wr gr (k' : Int) e w1) (hne : gm ≠ gr) (hgr : w.heap.size < gr) (he : pre ++ L k' = L m) : Sr w w1 gw gr gm s m k' v pre := by
  obtain ⟨h2, h3, h4, h5, h6, h7⟩ := h
  have hlt : w.heap.size < wr.heap.size := (Array.getElem?_eq_some_iff.1 h7).1
  have hltg : gw < wr.heap.size := (Array.getElem?_eq_some_iff.1 h2).1
  obtain ⟨⟨_, hz, hg⟩, hf⟩ := hp
  have hb := h4.zz.blk
  refine ⟨⟨(hg.block gw hltg (by have := ne_types h2 hb (by decide); simpa using this)).trans h2, ?_, ?_, h5.grown hg hb hne, below_grown h6 hg (by omega), he⟩, (hg.block _ hlt (by simp; omega)).trans h7⟩
  · obtain ⟨b, A, n, c, hc⟩ := hb
    exact Kd.R_mono (Kd.R_grown (Kd.R_types h3 hc (by decide)) hg (fun k hk => by have := hk.2; simpa using this)) (fun _ hk => hk.1)
  · obtain ⟨A, c, hzb, hm⟩ := hz
    refine ⟨A, c, hzb, hm, fun ad hA hn ho => ?_⟩
    have h1 := hf _ _ _ (blk_cell hzb 1) ad hA hn
    have h2 := Kd.R_lt h3 _ ho.symm
    omega
end
end Go.Proofs.Ytjddhnjjeomfjaa.Mn
end
section
namespace Go.Proofs.Ytjddhnjjeomfjaa.Mo
end Go.Proofs.Ytjddhnjjeomfjaa.Mo
end
section
namespace Go.Proofs.Ytjddhnjjeomfjaa.Mq
end Go.Proofs.Ytjddhnjjeomfjaa.Mq
end
section
set_option linter.unusedVariables false
set_option linter.unusedSimpArgs false
namespace Go.Proofs.Ytjddhnjjeomfjaa.Mr
open Go.RowKit Go.Proofs.YtjddhnjjeomfjaaW.PrintWords Go.Proofs.Ytjddhnjjeomfjaa.PW Go.Proofs.Ytjddhnjjeomfjaa.Pc Go.Proofs.Ytjddhnjjeomfjaa.Pb Go.Proofs.Ytjddhnjjeomfjaa.Pw Go.Proofs.Ytjddhnjjeomfjaa.Ma Go.Proofs.Ytjddhnjjeomfjaa.Mb Go.Proofs.Ytjddhnjjeomfjaa.Mc Go.Proofs.Ytjddhnjjeomfjaa.Md Go.Proofs.Ytjddhnjjeomfjaa.Me Go.Proofs.Ytjddhnjjeomfjaa.Mg Go.Proofs.Ytjddhnjjeomfjaa.Mh Go.Proofs.Ytjddhnjjeomfjaa.Mq Dg
def both (s0 : Int) (l0 : List Int) (s1 : Int) (l1 : List Int) (z : Int) : Int × List Int × Int := if isW s0 l0 = true ∧ isW s1 l1 = true then fit z else (0, [], 1)
end Go.Proofs.Ytjddhnjjeomfjaa.Mr
end
section
set_option linter.unusedVariables false
set_option linter.unusedSimpArgs false
namespace Go.Proofs.Ytjddhnjjeomfjaa.Mu
open Go.RowKit Go.Proofs.YtjddhnjjeomfjaaW.PrintWords Go.Proofs.Ytjddhnjjeomfjaa.PW Go.Proofs.Ytjddhnjjeomfjaa.Pc Go.Proofs.Ytjddhnjjeomfjaa.Pb Go.Proofs.Ytjddhnjjeomfjaa.Pw Go.Proofs.Ytjddhnjjeomfjaa.Ma Go.Proofs.Ytjddhnjjeomfjaa.Mb Go.Proofs.Ytjddhnjjeomfjaa.Mc Go.Proofs.Ytjddhnjjeomfjaa.Md Go.Proofs.Ytjddhnjjeomfjaa.Me Go.Proofs.Ytjddhnjjeomfjaa.Mg Go.Proofs.Ytjddhnjjeomfjaa.Mh Go.Proofs.Ytjddhnjjeomfjaa.Mq Go.Proofs.Ytjddhnjjeomfjaa.Mr Dg
theorem alloc_size (w : World) (o : Obj) : (w.alloc o).heap.size = w.heap.size + 1 := by simp
theorem below_put {B q : Nat} {w w1 w2 : World} (h : Below B w w1) (k : w1.grownBy w2 (some q)) (hq : B ≤ q) (hw1 : B ≤ w1.heap.size) : Below B w w2 :=
  h.trans ⟨k.os, k.tape, k.output, k.size, fun i hi => k.block i (Nat.lt_of_lt_of_le hi hw1) (by simp; omega)⟩
end Go.Proofs.Ytjddhnjjeomfjaa.Mu
end
section
set_option linter.unusedVariables false
namespace Go.Proofs.Ytjddhnjjeomfjaa.Re
open Go.RowKit Go.Proofs.Ytjddhnjjeomfjaa.Pm Go.Proofs.Ytjddhnjjeomfjaa.Mu Go.Proofs.Ytjddhnjjeomfjaa.Ve Dg Fp
def rq (long : Nat) (e : Int) : Int := if (long : Int) + e - 24 < -149 then -149 else (long : Int) + e - 24
def ups (mode s : Int) (t r h : Nat) : Bool :=
  if mode = 0 then decide (h < r ∨ r = h ∧ t % 2 = 1) else if mode = 1 then decide (s < 0) else if mode = 2 then decide (0 < s) else decide (mode = 4)
def rt (z e mode : Int) : Nat × Int :=
  if rq (bl z.natAbs) e ≤ e then (z.natAbs * 2 ^ (e - rq (bl z.natAbs) e).toNat, 0)
  else if z.natAbs % 2 ^ (rq (bl z.natAbs) e - e).toNat = 0 then (z.natAbs / 2 ^ (rq (bl z.natAbs) e - e).toNat, 0)
  else (z.natAbs / 2 ^ (rq (bl z.natAbs) e - e).toNat + (if ups mode (sgn z) (z.natAbs / 2 ^ (rq (bl z.natAbs) e - e).toNat) (z.natAbs % 2 ^ (rq (bl z.natAbs) e - e).toNat) (2 ^ ((rq (bl z.natAbs) e - e).toNat - 1)) = true then 1 else 0), if (bl z.natAbs : Int) + e ≤ -126 then 3 else 1)
def rnd (z e mode : Int) : Nat × Int :=
  if z = 0 then (0, 0)
  else if 128 < (bl z.natAbs : Int) + e then (ovr (sgn z) mode, 5)
  else if 128 < (bl (rt z e mode).1 : Int) + rq (bl z.natAbs) e then (ovr (sgn z) mode, 5)
  else (Ieee.single.nearest (decide (z < 0)) (rt z e mode).1 (rq (bl z.natAbs) e), (rt z e mode).2)
end Go.Proofs.Ytjddhnjjeomfjaa.Re
end
section
set_option linter.unusedVariables false
set_option linter.unusedSimpArgs false
namespace Go.Proofs.Ytjddhnjjeomfjaa.Rf
open Go.RowKit Go.Proofs.Ytjddhnjjeomfjaa.Pm Go.Proofs.Ytjddhnjjeomfjaa.Mu Go.Proofs.Ytjddhnjjeomfjaa.Ve Go.Proofs.Ytjddhnjjeomfjaa.Re Go.Proofs.Ytjddhnjjeomfjaa.We Dg Fp
theorem rq_shift {n : Nat} (j : Nat) (e : Int) (h : n ≠ 0) : rq (bl (n * 2 ^ j)) e = rq (bl n) (e + j) := by
  rw [bl_shift h]
  unfold rq
  rw [show ((bl n + j : Nat) : Int) + e - 24 = (bl n : Int) + (e + j) - 24 by omega]
theorem natAbs_two (z : Int) (j : Nat) : (z * 2 ^ j).natAbs = z.natAbs * 2 ^ j := by
  rw [Int.natAbs_mul, show ((2 : Int) ^ j).natAbs = 2 ^ j by rw [Int.natAbs_pow]; rfl]
theorem two_zpos (j : Nat) : (0 : Int) < 2 ^ j := Int.pow_pos (by decide)
theorem mul_two_neg (z : Int) (j : Nat) : z * 2 ^ j < 0 ↔ z < 0 := by
  have h := two_zpos j
  constructor
  · intro h1
    rcases Int.lt_or_le z 0 with h2 | h2
    · exact h2
    · have := Int.mul_nonneg h2 (Int.le_of_lt h); omega
  · intro h1
    exact Int.mul_neg_of_neg_of_pos h1 h
theorem mul_two_zero (z : Int) (j : Nat) : z * 2 ^ j = 0 ↔ z = 0 := by
  have h := two_zpos j
  constructor
  · intro h1
    rcases Int.mul_eq_zero.1 h1 with h2 | h2
    · exact h2
    · omega
  · rintro rfl; exact Int.zero_mul _
theorem sgn_two (z : Int) (j : Nat) : sgn (z * 2 ^ j) = sgn z := by
  have h1 := mul_two_neg z j
  have h2 := mul_two_zero z j
  unfold sgn
  split <;> split <;> (try split) <;> (try split) <;> first | rfl | omega
theorem ups_scale (mode s : Int) (t r h : Nat) (j : Nat) : ups mode s t (r * 2 ^ j) (h * 2 ^ j) = ups mode s t r h := by
  have hp := Nat.two_pow_pos j
  have h1 : h * 2 ^ j < r * 2 ^ j ↔ h < r := Nat.mul_lt_mul_right hp
  have h2 : r * 2 ^ j = h * 2 ^ j ↔ r = h := Nat.mul_left_inj (by omega)
  unfold ups
  simp only [h1, h2]
theorem rt_shift {z : Int} (j : Nat) (e mode : Int) (h : z ≠ 0) : rt (z * 2 ^ j) e mode = rt z (e + j) mode := by
  have hn : z.natAbs ≠ 0 := by omega
  unfold rt
  rw [natAbs_two, sgn_two, rq_shift j e hn, bl_shift hn]
  generalize hQ : rq (bl z.natAbs) (e + j) = Q
  clear hQ
  rw [show ((bl z.natAbs + j : Nat) : Int) + e = (bl z.natAbs : Int) + (e + j) by omega]
  generalize hF : (if (bl z.natAbs : Int) + (e + j) ≤ -126 then (3 : Int) else 1) = F
  clear hF
  generalize z.natAbs = n at *
  by_cases hA : Q ≤ e
  · rw [if_pos hA, if_pos (by omega), Nat.mul_assoc, ← Nat.pow_add, show j + (e - Q).toNat = (e + j - Q).toNat by omega]
  · rw [if_neg hA]
    by_cases hB : Q ≤ e + j
    · rw [if_pos hB]
      have hj : j = (e + j - Q).toNat + (Q - e).toNat := by omega
      generalize (e + j - Q).toNat = i at hj ⊢
      generalize (Q - e).toNat = d at hj ⊢
      rw [hj, Nat.pow_add, ← Nat.mul_assoc, if_pos (Nat.mul_mod_left _ _), Nat.mul_div_cancel _ (Nat.two_pow_pos d)]
    · rw [if_neg hB]
      have hd : (Q - e).toNat = (Q - (e + j)).toNat + j := by omega
      have hd1 : 1 ≤ (Q - (e + j)).toNat := by omega
      rw [hd]
      generalize (Q - (e + j)).toNat = d at hd1 ⊢
      have hp := Nat.two_pow_pos j
      rw [Nat.pow_add, Nat.mul_mod_mul_right, Nat.mul_div_mul_right _ _ hp, show d + j - 1 = (d - 1) + j by omega, Nat.pow_add, ups_scale]
      have h0 : n % 2 ^ d * 2 ^ j = 0 ↔ n % 2 ^ d = 0 := by
        rw [Nat.mul_eq_zero]
        constructor
        · rintro (h | h)
          · exact h
          · omega
        · exact .inl
      simp only [h0]
theorem rnd_shift (z : Int) (j : Nat) (e mode : Int) : rnd (z * 2 ^ j) e mode = rnd z (e + j) mode := by
  by_cases h : z = 0
  · unfold rnd
    rw [if_pos ((mul_two_zero z j).2 h), if_pos h]
  · have hn : z.natAbs ≠ 0 := by omega
    have h2 := mul_two_neg z j
    unfold rnd
    rw [if_neg (fun hh => h ((mul_two_zero z j).1 hh)), if_neg h, rt_shift j e mode h, natAbs_two, rq_shift j e hn, sgn_two, bl_shift hn]
    rw [show ((bl z.natAbs + j : Nat) : Int) + e = (bl z.natAbs : Int) + (e + j) by omega]
    simp only [h2]
theorem odd_mod {a d : Nat} (ha : a % 2 = 1) (hd : 1 ≤ d) : a % 2 ^ d ≠ 0 := by
  intro h
  have h1 : a % 2 ^ d % 2 = a % 2 := Nat.mod_mod_of_dvd _ (by
    obtain ⟨k, rfl⟩ : ∃ k, d = k + 1 := ⟨d - 1, by omega⟩
    exact ⟨2 ^ k, by rw [Nat.pow_succ, Nat.mul_comm]⟩)
  rw [h] at h1
  omega
theorem ups_odd {a d : Nat} (mode s : Int) (ha : a % 2 = 1) (hd : 1 ≤ d) :
    ups mode s (a / 2 ^ d) (a % 2 ^ d) (2 ^ (d - 1)) = (if mode = 0 then decide (a / 2 ^ (d - 1) % 2 = 1 ∧ (1 < d ∨ a / 2 ^ d % 2 = 1)) else if mode = 1 then decide (s < 0) else if mode = 2 then decide (0 < s) else decide (mode = 4)) := by
  unfold ups
  by_cases hm : mode = 0
  · rw [if_pos hm, if_pos hm]
    obtain ⟨k, rfl⟩ : ∃ k, d = k + 1 := ⟨d - 1, by omega⟩
    rw [show k + 1 - 1 = k by omega]
    have hs := Nat.mod_pow_succ (b := 2) (x := a) (k := k)
    have hl := Nat.mod_lt a (Nat.two_pow_pos k)
    rw [hs]
    generalize a / 2 ^ (k + 1) % 2 = T
    have hb : a / 2 ^ k % 2 < 2 := Nat.mod_lt _ (by decide)
    have h0 : k = 0 → a % 2 ^ k = 0 := by rintro rfl; simp [Nat.mod_one]
    have h1 : k ≠ 0 → a % 2 ^ k ≠ 0 := fun h => odd_mod ha (by omega)
    clear hs
    generalize a / 2 ^ k % 2 = b at *
    generalize a % 2 ^ k = r at *
    generalize 2 ^ k = p at *
    congr 1
    have hb2 : b = 0 ∨ b = 1 := by omega
    rcases hb2 with rfl | rfl
    · rw [Nat.mul_zero, Nat.add_zero]
      refine propext ⟨fun h => ?_, fun h => ?_⟩ <;> omega
    · rw [Nat.mul_one]
      by_cases hk : k = 0
      · have := h0 hk
        refine propext ⟨fun h => ?_, fun h => ?_⟩ <;> omega
      · have := h1 hk
        refine propext ⟨fun h => ?_, fun h => ?_⟩ <;> omega
  · rw [if_neg hm, if_neg hm]
theorem rq_bd (n : Nat) (e : Int) : -149 ≤ rq n e ∧ (n : Int) + e - 24 ≤ rq n e := by
  unfold rq
  split <;> omega
theorem rq_le {n : Nat} {e : Int} (h : (n : Int) + e ≤ 128) : rq n e ≤ 104 := by
  unfold rq
  split <;> omega
theorem rt_le (z e mode : Int) : (rt z e mode).1 ≤ 16777216 := by
  have hq := rq_bd (bl z.natAbs) e
  have hb : ∀ k, bl z.natAbs ≤ k → z.natAbs < 2 ^ k := fun k h => bl_iff.1 h
  have e24 : (2 : Nat) ^ 24 = 16777216 := by decide
  unfold rt
  generalize rq (bl z.natAbs) e = Q at *
  by_cases hA : Q ≤ e
  · rw [if_pos hA]
    have h1 := hb (24 - (e - Q).toNat) (by omega)
    have h2 := Nat.mul_le_mul_right (2 ^ (e - Q).toNat) (Nat.le_of_lt h1)
    by_cases hz : bl z.natAbs = 0
    · rw [bl_eq_zero] at hz
      show z.natAbs * _ ≤ _
      rw [hz, Nat.zero_mul]; omega
    · rw [← Nat.pow_add, show 24 - (e - Q).toNat + (e - Q).toNat = 24 by omega, e24] at h2
      exact h2
  · rw [if_neg hA]
    have h1 := hb (24 + (Q - e).toNat) (by omega)
    rw [Nat.pow_add, e24] at h1
    have h2 : z.natAbs / 2 ^ (Q - e).toNat < 16777216 := Nat.div_lt_of_lt_mul (by rw [Nat.mul_comm]; exact h1)
    by_cases hr : z.natAbs % 2 ^ (Q - e).toNat = 0
    · rw [if_pos hr]; exact Nat.le_of_lt h2
    · rw [if_neg hr]
      show z.natAbs / 2 ^ (Q - e).toNat + (if _ then 1 else 0) ≤ 16777216
      split <;> omega
theorem rp_of {t : Nat} {Q : Int} (ht : t ≤ 16777216) (h1 : -149 ≤ Q) (h2 : (bl t : Int) + Q ≤ 128) (h3 : Q ≤ 104) : ∃ m e, Rp Ieee.single m e ∧ V t Q = V m e := by
  by_cases hb : t = 16777216
  · subst hb
    have h25 : bl 16777216 = 25 := by rw [show (16777216 : Nat) = 1 * 2 ^ 24 by decide, bl_shift (by decide)]; rfl
    rw [h25] at h2
    refine ⟨8388608, Q + 1, ⟨by rw [bi32]; decide, by rw [lp32]; omega, by rw [top32]; omega⟩, ?_⟩
    have := V_shift 8388608 Q 1 (by unfold K; omega)
    rw [show Q + ((1 : Nat) : Int) = Q + 1 by omega] at this
    rw [this]
  · exact ⟨t, Q, ⟨by rw [bi32]; omega, by rw [lp32]; omega, by rw [top32]; omega⟩, rfl⟩
theorem near_isN (s : Bool) {t : Nat} {Q : Int} (ht : t ≤ 16777216) (h1 : -149 ≤ Q) (h2 : (bl t : Int) + Q ≤ 128) (h3 : Q ≤ 104) : IsN Ieee.single (Ieee.single.nearest s t Q) s (V t Q) := by
  obtain ⟨m, e, hr, hv⟩ := rp_of ht h1 h2 h3
  rw [hv]
  exact isN_nearest hK32 s hr (by unfold K; omega) hv
theorem narrow_t {x t : Nat} {s : Bool} {Q : Int} (hx : IsN Ieee.double x s (V t Q)) (ht : t ≤ 16777216) (h1 : -149 ≤ Q) (h2 : (bl t : Int) + Q ≤ 128) (h3 : Q ≤ 104) : floatToFloatBits .f64 x .f32 = some (Ieee.single.nearest s t Q) := by
  have hn := near_isN s ht h1 h2 h3
  obtain ⟨m, e, hr, hv⟩ := rp_of ht h1 h2 h3
  rw [hv] at hx hn
  obtain ⟨r, h, hi⟩ := narrow hx hr
  rw [h, hi.unique hK32 hn]
theorem opp_near {t : Nat} {Q : Int} (ht : t ≤ 16777216) (h1 : -149 ≤ Q) (h2 : (bl t : Int) + Q ≤ 128) (h3 : Q ≤ 104) : opp (Ieee.single.nearest false t Q) = Ieee.single.nearest true t Q := by
  have ha := near_isN false ht h1 h2 h3
  have hb := near_isN true ht h1 h2 h3
  obtain ⟨m, e, _, c, hr, hw, hv⟩ := ha
  have hl : rung Ieee.single m e < Ieee.single.signWeight := by rw [sw32]; rw [ir32] at hr; omega
  have hc := isN_word true c hr
  rw [hv] at hc
  refine IsN.unique hK32 ?_ hb
  have : opp (Ieee.single.nearest false t Q) = Ieee.single.word true (rung Ieee.single m e) := by
    unfold opp
    rw [hw, (sg_word hl).1, (sg_word hl).2]
    rfl
  rw [this]
  exact hc
theorem near_lt (s : Bool) {t : Nat} {Q : Int} (ht : t ≤ 16777216) (h1 : -149 ≤ Q) (h2 : (bl t : Int) + Q ≤ 128) (h3 : Q ≤ 104) : Ieee.single.nearest s t Q < 4294967296 ∧ nan Ieee.single (Ieee.single.nearest s t Q) = false := by
  have h := near_isN s ht h1 h2 h3
  have hl := isN_lt h
  rw [wd32] at hl
  exact ⟨hl, (isN_fin' h).2.1⟩
theorem ovr_lt (s mode : Int) : ovr s mode < 4294967296 ∧ nan Ieee.single (ovr s mode) = false := by
  unfold ovr
  split <;> split <;> exact ⟨by decide, by decide⟩
theorem rnd_ok (z e mode : Int) : (rnd z e mode).1 < 4294967296 ∧ nan Ieee.single (rnd z e mode).1 = false := by
  unfold rnd
  by_cases h0 : z = 0
  · rw [if_pos h0]; exact ⟨by show (0 : Nat) < _; decide, by show nan Ieee.single 0 = false; decide⟩
  · rw [if_neg h0]
    by_cases h1 : 128 < (bl z.natAbs : Int) + e
    · rw [if_pos h1]; exact ovr_lt _ _
    · rw [if_neg h1]
      by_cases h2 : 128 < (bl (rt z e mode).1 : Int) + rq (bl z.natAbs) e
      · rw [if_pos h2]; exact ovr_lt _ _
      · rw [if_neg h2]
        exact near_lt _ (rt_le _ _ _) (rq_bd _ _).1 (by omega) (rq_le (by omega))
end Go.Proofs.Ytjddhnjjeomfjaa.Rf
end
section
set_option linter.unusedVariables false
set_option linter.unusedSimpArgs false
namespace Go.Proofs.Ytjddhnjjeomfjaa.Na
open Go.RowKit Go.Proofs.YtjddhnjjeomfjaaW.PrintWords Go.Proofs.Ytjddhnjjeomfjaa.PW Go.Proofs.Ytjddhnjjeomfjaa.Pc Go.Proofs.Ytjddhnjjeomfjaa.Pb Go.Proofs.Ytjddhnjjeomfjaa.Pw Go.Proofs.Ytjddhnjjeomfjaa.Ma Go.Proofs.Ytjddhnjjeomfjaa.Mb Go.Proofs.Ytjddhnjjeomfjaa.Mc Go.Proofs.Ytjddhnjjeomfjaa.Md Go.Proofs.Ytjddhnjjeomfjaa.Me Go.Proofs.Ytjddhnjjeomfjaa.Mg Go.Proofs.Ytjddhnjjeomfjaa.Mh Go.Proofs.Ytjddhnjjeomfjaa.Mk Go.Proofs.Ytjddhnjjeomfjaa.Mn Go.Proofs.Ytjddhnjjeomfjaa.Mu Go.Proofs.Ytjddhnjjeomfjaa.Nb Dg
open Pm (sgn)
theorem boxes1 (w : World) (o : Obj) : ∀ W, Below (w.heap.size + 1) (w.alloc o) W → Below w.heap.size w W ∧ W.heap[w.heap.size]? = some o ∧ w.heap.size + 1 ≤ W.heap.size := fun W hW =>
  ⟨(Ma.below_alloc w o).trans (hW.mono (by omega)), (hW.block _ (by omega)).trans (heap_alloc_new w o), by have := hW.size; rw [alloc_size] at this; exact this⟩
theorem boxes2 (w : World) (o o2 : Obj) : ∀ W, Below (w.heap.size + 2) ((w.alloc o).alloc o2) W → Below w.heap.size w W ∧ W.heap[w.heap.size]? = some o ∧ W.heap[w.heap.size + 1]? = some o2 ∧ w.heap.size + 2 ≤ W.heap.size := fun W hW => by
  have e := alloc_size w o
  have h := boxes1 (w.alloc o) o2 W (by rw [e]; exact hW)
  rw [e] at h
  exact ⟨(Ma.below_alloc w o).trans (h.1.mono (by omega)), (h.1.block _ (by omega)).trans (heap_alloc_new w o), h.2.1, h.2.2⟩
theorem zset {w : World} {p gw t : Nat} {n : Int} {cs : Array Value} (h : Z w p n) (hw : w.heap[gw]? = some (.cells cs t (0, 0))) (ht : t ≠ 89) (hc : ∀ (i : Nat) (x : Int), cs[i]? ≠ some (Value.int .u32 x)) (i : Nat) (u : Value) : Z (w.setCell ⟨gw, i, none⟩ u) p n := by
  obtain ⟨A, c, hb, hm⟩ := h
  have hne : p ≠ gw := by
    rintro rfl
    rw [hb] at hw
    injection hw with hw
    injection hw with _ hw
    exact ht hw.symm
  refine ⟨A, c, (Below.heap_setCell _ _ _ _ hne).trans hb, Mn.Mg.kept_at hm fun ad hA hn => Below.heap_setCell _ _ _ _ ?_⟩
  intro e
  have e : ad.block = gw := e
  obtain ⟨ad', hA', hc'⟩ := hm.1.2.2 hn
  rw [hA] at hA'
  injection hA' with hA'
  subst hA'
  obtain ⟨cs', hs, hR, hcell⟩ := hc' 0 _ (List.getElem?_eq_getElem hn)
  have hR' : cs' = [.int .u32 (D n.natAbs)[0]] := hR
  subst hR'
  have h4 := hcell 0 _ rfl
  rw [← e] at hw
  simp only [World.cell?, Mn.add_block, hw] at h4
  split at h4
  · cases h4
  · exact hc _ _ h4
def GivesN (w : World) (z e : Int) (en : Ending) (w' : World) : Prop := ∃ g, en = .returned (.agg #[.pointer (some ⟨g, 0, none⟩), .int .i64 e]) ∧ Z w' g z ∧ Below w.heap.size w w'
theorem cellsN {W : World} {g : Nat} {u v : Value} {t : Nat} (hg : W.heap[g]? = some (.cells #[u, v] t (0, 0))) : W.cell? ⟨g, 0, none⟩ = some u ∧ W.cell? ⟨g, 1, none⟩ = some v ∧ W.frozen? ⟨g, 0, none⟩ = false ∧ W.frozen? ⟨g, 1, none⟩ = false ∧ g < W.heap.size :=
  ⟨blk_cell hg 0, blk_cell hg 1, blk_frozen hg 0, blk_frozen hg 1, (Array.getElem?_eq_some_iff.1 hg).1⟩
set_option maxHeartbeats 400000 in
theorem nsign {w : World} {q : Nat} {z e : Int} (hz : Z w q z) :
    Calls Try.prog 63 #[.agg #[.pointer (some ⟨q, 0, none⟩), .int .i64 e]] w fun en w' => en = .returned (.int .i64 (sgn z)) ∧ Below w.heap.size w w' := by
  have HS := Lib.hid (Me.sign (hz.below (Ma.below_alloc w (.cells #[.pointer (some ⟨q, 0, none⟩), .int .i64 e] 58))))
  clear hz
  go_enter Try.func63, Try.ntmps63
  go_wp2_with fail
  refine HS.out.mono ?_
  rintro en w1 ⟨rfl, rfl⟩
  go_wp2
  go_ret
  exact ⟨rfl, Ma.below_alloc _ _⟩
end Go.Proofs.Ytjddhnjjeomfjaa.Na
end
section
set_option linter.unusedVariables false
set_option linter.unusedSimpArgs false
namespace Go.Proofs.Ytjddhnjjeomfjaa.Nc
open Go.RowKit Go.Proofs.YtjddhnjjeomfjaaW.PrintWords Go.Proofs.Ytjddhnjjeomfjaa.PW Go.Proofs.Ytjddhnjjeomfjaa.Pc Go.Proofs.Ytjddhnjjeomfjaa.Pb Go.Proofs.Ytjddhnjjeomfjaa.Pw Go.Proofs.Ytjddhnjjeomfjaa.Ma Go.Proofs.Ytjddhnjjeomfjaa.Mb Go.Proofs.Ytjddhnjjeomfjaa.Mc Go.Proofs.Ytjddhnjjeomfjaa.Md Go.Proofs.Ytjddhnjjeomfjaa.Me Go.Proofs.Ytjddhnjjeomfjaa.Mg Go.Proofs.Ytjddhnjjeomfjaa.Mh Go.Proofs.Ytjddhnjjeomfjaa.Mk Go.Proofs.Ytjddhnjjeomfjaa.Mn Go.Proofs.Ytjddhnjjeomfjaa.Mu Go.Proofs.Ytjddhnjjeomfjaa.Na Dg
open Pm (sgn)
theorem GivesN.of {w W w' : World} {z e : Int} {en : Ending} (hb : Below w.heap.size w W) (h : GivesN W z e en w') : GivesN w z e en w' := by
  obtain ⟨g, he, hz, hbl⟩ := h
  exact ⟨g, he, hz, below_then hb hbl⟩
end Go.Proofs.Ytjddhnjjeomfjaa.Nc
end
section
namespace Go.Proofs.Ytjddhnjjeomfjaa.Qc
end Go.Proofs.Ytjddhnjjeomfjaa.Qc
end
section
set_option linter.unusedVariables false
set_option linter.unusedSimpArgs false
namespace Go.Proofs.Ytjddhnjjeomfjaa.Nd
open Go.RowKit Go.Proofs.YtjddhnjjeomfjaaW.PrintWords Go.Proofs.Ytjddhnjjeomfjaa.PW Go.Proofs.Ytjddhnjjeomfjaa.Pc Go.Proofs.Ytjddhnjjeomfjaa.Pb Go.Proofs.Ytjddhnjjeomfjaa.Pw Go.Proofs.Ytjddhnjjeomfjaa.Ma Go.Proofs.Ytjddhnjjeomfjaa.Mb Go.Proofs.Ytjddhnjjeomfjaa.Mc Go.Proofs.Ytjddhnjjeomfjaa.Md Go.Proofs.Ytjddhnjjeomfjaa.Me Go.Proofs.Ytjddhnjjeomfjaa.Mg Go.Proofs.Ytjddhnjjeomfjaa.Mh Go.Proofs.Ytjddhnjjeomfjaa.Mk Go.Proofs.Ytjddhnjjeomfjaa.Mn Go.Proofs.Ytjddhnjjeomfjaa.Mo Go.Proofs.Ytjddhnjjeomfjaa.Mu Go.Proofs.Ytjddhnjjeomfjaa.Na Go.Proofs.Ytjddhnjjeomfjaa.Nb Dg
open Pm (sgn)
theorem sizeD : (Try.prog.info? 33).map (·.size) = some 3 := by kernel_rfl
theorem storedD {w W : World} {g : Nat} {s x : Int} {u : Value} {l : List Int} (hg : W.heap[g]? = some (.cells #[.int .i64 0, .slice none 0 0, .int .i64 0] 33 (0, 0))) (hb : Below w.heap.size w W) (hw : w.heap.size ≤ g) (hR : Kd.R (Kd.int .i64) 2 W w.heap.size (fun _ => True) u l) :
    (((W.setCell ⟨g, 0, none⟩ (.int .i64 s)).setCell ⟨g, 1, none⟩ u).setCell ⟨g, 2, none⟩ (.int .i64 x)).heap[g]? = some (.cells #[.int .i64 s, u, .int .i64 x] 33 (0, 0)) ∧ Kd.R (Kd.int .i64) 2 (((W.setCell ⟨g, 0, none⟩ (.int .i64 s)).setCell ⟨g, 1, none⟩ u).setCell ⟨g, 2, none⟩ (.int .i64 x)) w.heap.size (fun _ => True) u l ∧ Below w.heap.size w (((W.setCell ⟨g, 0, none⟩ (.int .i64 s)).setCell ⟨g, 1, none⟩ u).setCell ⟨g, 2, none⟩ (.int .i64 x)) :=
  ⟨blk_set (blk_set (blk_set hg 0 _) 1 _) 2 _, Kd.R_set (Kd.R_set (Kd.R_set hR hg (by decide) 0 _) (blk_set hg 0 _) (by decide) 1 _) (blk_set (blk_set hg 0 _) 1 _) (by decide) 2 _, ((hb.setCell (p := ⟨g, 0, none⟩) hw _).setCell (p := ⟨g, 1, none⟩) hw _).setCell (p := ⟨g, 2, none⟩) hw _⟩
theorem cellsD {W : World} {g : Nat} {u v x : Value} {t : Nat} (hg : W.heap[g]? = some (.cells #[u, v, x] t (0, 0))) : W.cell? ⟨g, 0, none⟩ = some u ∧ W.cell? ⟨g, 1, none⟩ = some v ∧ W.cell? ⟨g, 2, none⟩ = some x ∧ W.frozen? ⟨g, 0, none⟩ = false ∧ W.frozen? ⟨g, 1, none⟩ = false ∧ W.frozen? ⟨g, 2, none⟩ = false ∧ g < W.heap.size :=
  ⟨blk_cell hg 0, blk_cell hg 1, blk_cell hg 2, blk_frozen hg 0, blk_frozen hg 1, blk_frozen hg 2, (Array.getElem?_eq_some_iff.1 hg).1⟩
end Go.Proofs.Ytjddhnjjeomfjaa.Nd
end
section
namespace Go.Proofs.Ytjddhnjjeomfjaa.Nf
end Go.Proofs.Ytjddhnjjeomfjaa.Nf
end
section
namespace Go.Proofs.Ytjddhnjjeomfjaa.Va
end Go.Proofs.Ytjddhnjjeomfjaa.Va
end
section
set_option linter.unusedVariables false
set_option linter.unusedSimpArgs false
namespace Go.Proofs.Ytjddhnjjeomfjaa.Ad
open Go.RowKit Go.Proofs.Ytjddhnjjeomfjaa.Pm Go.Proofs.Ytjddhnjjeomfjaa.Mu Go.Proofs.Ytjddhnjjeomfjaa.Nc Go.Proofs.Ytjddhnjjeomfjaa.Qa Go.Proofs.Ytjddhnjjeomfjaa.Re Go.Proofs.Ytjddhnjjeomfjaa.Rf Dg Fp
structure Od (z e z' e' : Int) : Prop where
  dy : dy z e = (sgn z', L z'.natAbs, e')
  zero : z = 0 → z' = 0 ∧ e' = 0
  pos : z ≠ 0 → z' ≠ 0 ∧ z'.natAbs % 2 = 1 ∧ ∃ k : Nat, z = z' * 2 ^ k ∧ e' = e + k ∧ k < bl z.natAbs
  bl : bl z'.natAbs ≤ bl z.natAbs
theorem od (z e : Int) : ∃ z' e', Od z e z' e' := by
  by_cases h0 : z = 0
  · subst h0
    exact ⟨0, 0, (by unfold Qa.dy; rw [if_pos rfl]; show ((0 : Int), ([] : List Int), (0 : Int)) = (sgn 0, L 0, 0); rw [L_zero]; rfl), fun _ => ⟨rfl, rfl⟩, fun h => absurd rfl h, Nat.le_refl _⟩
  · have hn : z.natAbs ≠ 0 := by omega
    obtain ⟨hs1, hs2⟩ := tz_spec hn
    generalize hq : z.natAbs / 2 ^ tz z.natAbs = q at hs1 hs2
    have hq0 : q ≠ 0 := by omega
    have key : ∀ z' : Int, z'.natAbs = q → sgn z' = sgn z → z = z' * 2 ^ tz z.natAbs → ∃ z' e', Od z e z' e' := fun z' ha hs hz => by
      refine ⟨z', e + (tz z.natAbs : Nat), ?_, fun h => absurd h h0, fun _ => ⟨by omega, by omega, tz z.natAbs, hz, rfl, tz_lt hn⟩, ?_⟩
      · unfold Qa.dy
        rw [if_neg h0, hq, ha, hs]
      · rw [ha, ← hq]; exact bl_mono (Nat.div_le_self _ _)
    have hp : ((2 : Int) ^ tz z.natAbs) = ((2 ^ tz z.natAbs : Nat) : Int) := by push_cast; rfl
    by_cases hneg : z < 0
    · refine key (-(q : Int)) (by omega) ?_ ?_
      · unfold sgn; rw [if_pos (by omega), if_pos hneg]
      · rw [hp, Int.neg_mul, ← Int.natCast_mul, ← hs1]; omega
    · refine key (q : Int) (by omega) ?_ ?_
      · unfold sgn; rw [if_neg (by omega), if_neg (by omega), if_neg hneg, if_neg h0]
      · rw [hp, ← Int.natCast_mul, ← hs1]; omega
theorem od_rnd {z e z' e' : Int} (h : Od z e z' e') (mode : Int) : rnd z e mode = rnd z' e' mode := by
  by_cases h0 : z = 0
  · obtain ⟨h1, h2⟩ := h.zero h0
    rw [h0, h1]
    unfold rnd
    rw [if_pos rfl, if_pos rfl]
  · obtain ⟨_, _, k, h1, h2, _⟩ := h.pos h0
    rw [h1, rnd_shift, h2]
def B : Int := -100000
end Go.Proofs.Ytjddhnjjeomfjaa.Ad
end
section
set_option linter.unusedVariables false
set_option linter.unusedSimpArgs false
namespace Go.Proofs.Ytjddhnjjeomfjaa.Sl
open Go.RowKit Go.Proofs.YtjddhnjjeomfjaaW.PrintWords Go.Proofs.YtjddhnjjeomfjaaW.PrintMore Go.Proofs.Ytjddhnjjeomfjaa.PW Go.Proofs.Ytjddhnjjeomfjaa.Pb Go.Proofs.Ytjddhnjjeomfjaa.Pc Go.Proofs.Ytjddhnjjeomfjaa.Pm Go.Proofs.Ytjddhnjjeomfjaa.Pw Go.Proofs.Ytjddhnjjeomfjaa.Ps Go.Proofs.Ytjddhnjjeomfjaa.Px Go.Proofs.Ytjddhnjjeomfjaa.Pv Go.Proofs.Ytjddhnjjeomfjaa.Pt Go.Proofs.Ytjddhnjjeomfjaa.Pz Go.Proofs.Ytjddhnjjeomfjaa.Ss Go.Proofs.Ytjddhnjjeomfjaa.St Go.Proofs.Ytjddhnjjeomfjaa.Qa Go.Proofs.Ytjddhnjjeomfjaa.Mu Go.Proofs.Ytjddhnjjeomfjaa.Re Go.Proofs.Ytjddhnjjeomfjaa.Rf Dg
theorem wrap_sq (z : Int) : wrap64 (sgn z * sgn z) = sgn (z.natAbs : Int) := by
  unfold sgn
  split
  · rw [if_neg (by omega), if_neg (by omega)]; exact (wrapZ _ (by omega) (by omega)).trans (by decide)
  · split
    · rw [if_neg (by omega), if_pos (by omega)]; exact (wrapZ _ (by omega) (by omega)).trans (by decide)
    · rw [if_neg (by omega), if_neg (by omega)]; exact (wrapZ _ (by omega) (by omega)).trans (by decide)
theorem sabs (z : Int) (hz : bl z.natAbs ≤ 1000000) : Ev (fun k => spec_l02Abs.f k (sgn z) (L z.natAbs)) (sgn (z.natAbs : Int), L z.natAbs) := by
  unfold spec_l02Abs.f
  rw [wrap_sq]
  have hs := smake (sgn (z.natAbs : Int)) (L z.natAbs) (L_dig _) (Nat.le_trans (L_len _) (by omega))
  rw [L_val] at hs
  rw [show ((z.natAbs : Nat) : Int).toNat = z.natAbs by omega] at hs
  have h2 := smk_sgn (z.natAbs : Int)
  rw [Int.natAbs_natCast] at h2
  rw [h2] at hs
  exact Ev.bind (f := fun k t => _) hs (ev_of fun _ => rfl)
theorem smore (b : Bool) (t : Nat) (Q : Int) (hb : bl t ≤ 1000000) : Ev (fun k => spec_l03Multiple.j0 k Q b (sgn (t : Int)) (L t)) (sgn ((t + (if b = true then 1 else 0) : Nat) : Int), L (t + (if b = true then 1 else 0)), Q, false) := by
  have ho := sof 1 (by decide) (by decide)
  have ha := sadd (t : Int) 1 (by rw [Int.natAbs_natCast]; omega) (by decide)
  rw [Int.natAbs_natCast, show ((t : Int) + 1) = ((t + 1 : Nat) : Int) by push_cast; rfl, Int.natAbs_natCast] at ha
  cases b with
  | false => exact Ev.step (f := fun _ => some (sgn (t : Int), L t, Q, false)) (fun k => rfl) (Ev.now _)
  | true =>
    refine Ev.step (f := fun k => (spec_l02Of.f k 1).bind fun b => (spec_l02Add.f k (sgn (t : Int)) (L t) b.1 b.2).bind fun c => some (c.1, c.2, Q, false)) (fun k => rfl) ?_
    exact Ev.bind (f := fun k (b : Int × List Int) => (spec_l02Add.f k (sgn (t : Int)) (L t) b.1 b.2).bind fun c => some (c.1, c.2, Q, false)) ho (Ev.bind (f := fun k (c : Int × List Int) => some (c.1, c.2, Q, false)) ha (Ev.now _))
theorem mx_rq (n : Nat) (e : Int) (hn : n ≤ 1000000) (h1 : -1000000 ≤ e) (h2 : e ≤ 1000000) : mx (wrap64 (wrap64 ((n : Int) + e) - 24)) (-149) = rq n e := by
  rw [wrapZ ((n : Int) + e) (by omega) (by omega), wrapZ _ (by omega) (by omega)]
  rfl
theorem smult {z e mode : Int} (h0 : z ≠ 0) (ho : z.natAbs % 2 = 1) (hb : bl z.natAbs ≤ 100000) (h1 : -100000 ≤ e) (h2 : e ≤ 100000) (h3 : 0 ≤ mode) (h4 : mode ≤ 4) :
    Ev (fun k => spec_l03Multiple.f k (sgn z) (L z.natAbs) e mode) (sgn ((rt z e mode).1 : Int), L (rt z e mode).1, rq (bl z.natAbs) e, decide (rq (bl z.natAbs) e ≤ e)) := by
  unfold spec_l03Multiple.f
  refine Ev.bind (f := fun k t => _) (sabs z (by omega)) (Ev.bind (f := fun k t => _) (slength (sgn (z.natAbs : Int)) z.natAbs (by omega)) ?_)
  have hq := rq_bd (bl z.natAbs) e
  have hqu : rq (bl z.natAbs) e ≤ 300000 := by unfold rq; split <;> omega
  simp only [mx_rq _ _ (show bl z.natAbs ≤ 1000000 by omega) (show -1000000 ≤ e by omega) (show e ≤ 1000000 by omega)]
  unfold rt
  have hsn : sgn (z.natAbs : Int) = 1 := by unfold sgn; rw [if_neg (by omega), if_neg (by omega)]
  generalize rq (bl z.natAbs) e = Q at *
  simp only [wrapZ (Q - e) (by omega) (by omega)]
  by_cases hA : Q ≤ e
  · rw [if_pos hA, decide_eq_true hA]
    refine ifp (by omega) ?_
    rw [wrapZ (-(Q - e)) (by omega) (by omega), show -(Q - e) = (((e - Q).toNat : Nat) : Int) by omega]
    have hl := sleft (z.natAbs : Int) (e - Q).toNat (by rw [Int.natAbs_natCast]; omega) (by omega)
    rw [Int.natAbs_natCast, show (z.natAbs : Int) * 2 ^ (e - Q).toNat = ((z.natAbs * 2 ^ (e - Q).toNat : Nat) : Int) by push_cast; rfl, Int.natAbs_natCast] at hl
    exact Ev.bind (f := fun k t => _) hl (ev_of fun _ => rfl)
  · rw [if_neg hA, decide_eq_false hA]
    refine ifn (by omega) ?_
    obtain ⟨d, hd⟩ : ∃ d : Nat, (d : Int) = Q - e := ⟨(Q - e).toNat, by omega⟩
    have hd1 : 1 ≤ d := by omega
    have hd2 : (Q - e).toNat = d := by omega
    rw [hd2, if_neg (odd_mod ho hd1), ← hd]
    have hc := scut (sgn (z.natAbs : Int)) z.natAbs d (by omega) (by omega)
    have hk := smk_of (s := sgn (z.natAbs : Int)) (z := ((z.natAbs / 2 ^ d : Nat) : Int)) (fun h => by have hp := Int.natCast_nonneg (z.natAbs / 2 ^ d); rw [hsn]; unfold sgn; rw [if_neg (Int.not_lt.2 hp), if_neg h])
    rw [Int.natAbs_natCast] at hk
    rw [hk] at hc
    refine Ev.bind (f := fun k t => _) hc ?_
    rw [wrapZ ((d : Int) - 1) (by omega) (by omega), show (d : Int) - 1 = ((d - 1 : Nat) : Int) by omega, sbit _ _ _ (by omega) (by omega)]
    have hb0 := sbit (sgn ((z.natAbs / 2 ^ d : Nat) : Int)) (z.natAbs / 2 ^ d) 0 (Nat.le_trans (bl_mono (Nat.div_le_self _ _)) (by omega)) (by omega)
    rw [show ((0 : Nat) : Int) = 0 from rfl] at hb0
    simp only [hb0, Option.bind_some]
    have hu := ups_odd mode (sgn z) ho hd1
    have hbt : bl (z.natAbs / 2 ^ d) ≤ 1000000 := Nat.le_trans (bl_mono (Nat.div_le_self _ _)) (by omega)
    have hmo := fun b => smore b (z.natAbs / 2 ^ d) Q hbt
    rw [hu]
    clear hu hb0 hc hk
    rw [Nat.pow_zero, Nat.div_one]
    generalize z.natAbs / 2 ^ d = t at *
    generalize z.natAbs / 2 ^ (d - 1) % 2 = b at *
    by_cases m0 : mode = 0
    · refine ifp m0 ?_
      rw [if_pos m0]
      by_cases hb1 : b = 1
      · refine ifp (by omega) ?_
        by_cases hd3 : 1 < d
        · refine ifp (by omega) ?_
          rw [decide_eq_true ⟨hb1, .inl hd3⟩]
          exact hmo true
        · refine ifn (by omega) ?_
          have := hmo (((t % 2 : Nat) : Int) == 1)
          rw [show (((t % 2 : Nat) : Int) == 1) = decide (b = 1 ∧ (1 < d ∨ t % 2 = 1)) by
            rw [Bool.eq_iff_iff, beq_iff_eq, decide_eq_true_iff]; omega] at this ⊢
          exact this
      · refine ifn (by omega) ?_
        rw [decide_eq_false (by omega)]
        exact hmo false
    · rw [if_neg m0]
      refine ifn m0 ?_
      by_cases m1 : mode = 1
      · refine ifp m1 ?_
        rw [if_pos m1]
        exact hmo _
      · refine ifn m1 ?_
        rw [if_neg m1]
        by_cases m2 : mode = 2
        · refine ifp m2 ?_
          rw [if_pos m2]
          exact hmo _
        · refine ifn m2 ?_
          rw [if_neg m2]
          by_cases m4 : mode = 4
          · refine ifp m4 ?_
            rw [decide_eq_true m4]
            exact hmo true
          · refine ifn m4 ?_
            rw [decide_eq_false m4]
            exact hmo false
end Go.Proofs.Ytjddhnjjeomfjaa.Sl
end
section
set_option linter.unusedVariables false
set_option linter.unusedSimpArgs false
namespace Go.Proofs.Ytjddhnjjeomfjaa.Hs
open Go.RowKit Go.Proofs.YtjddhnjjeomfjaaW.PrintWords Go.Proofs.Ytjddhnjjeomfjaa.Ma Go.Proofs.Ytjddhnjjeomfjaa.Mb Go.Proofs.Ytjddhnjjeomfjaa.Mc Go.Proofs.Ytjddhnjjeomfjaa.Mu Dg
def Hs (w W : World) (l : List (Nat × Int)) : Prop := Below w.heap.size w W ∧ (l.map Prod.fst).Nodup ∧ ∀ x ∈ l, Z W x.1 x.2 ∧ w.heap.size ≤ x.1
theorem Hs.nil (w : World) : Hs w w [] := ⟨Below.refl _ _, .nil, fun x h => nomatch h⟩
theorem Hs.get {w W : World} {l : List (Nat × Int)} {p : Nat} {v : Int} (h : Hs w W l) (hm : (p, v) ∈ l) : Z W p v := (h.2.2 _ hm).1
theorem Hs.below {w W W' : World} {l : List (Nat × Int)} (h : Hs w W l) (hb : Below W.heap.size W W') : Hs w W' l :=
  ⟨below_then h.1 hb, h.2.1, fun x hx => ⟨(h.2.2 x hx).1.below hb, (h.2.2 x hx).2⟩⟩
theorem Hs.news {w W W' : World} {l : List (Nat × Int)} {g : Nat} {z : Int} (h : Hs w W l) (hz : Z W' g z) (hg : W.heap.size ≤ g) (hb : Below W.heap.size W W') : Hs w W' ((g, z) :: l) := by
  have h' := h.below hb
  refine ⟨h'.1, List.nodup_cons.2 ⟨fun hm => ?_, h'.2.1⟩, fun x hx => ?_⟩
  · obtain ⟨x, hx, he⟩ := List.mem_map.1 hm
    have := (h.2.2 x hx).1.lt
    omega
  · rcases List.mem_cons.1 hx with rfl | hx
    · have := h.1.size
      exact ⟨hz, by show w.heap.size ≤ g; omega⟩
    · exact h'.2.2 x hx
theorem Hs.new {w W : World} {l : List (Nat × Int)} (h : Hs w W l) : Hs w (W.alloc (.cells #[.bool false, .slice none 0 0] 89)) ((W.heap.size, 0) :: l) :=
  h.news (Z.new W) (Nat.le_refl _) (Ma.below_alloc W _)
theorem Hs.put {w W W' : World} {l : List (Nat × Int)} {p : Nat} {v z : Int} (h : Hs w W ((p, v) :: l)) (hz : Z W' p z) (hg : W.grownBy W' (some p)) : Hs w W' ((p, z) :: l) := by
  have hp := h.2.2 (p, v) (.head _)
  refine ⟨below_put h.1 hg hp.2 h.1.size, h.2.1, fun x hx => ?_⟩
  rcases List.mem_cons.1 hx with rfl | hx
  · exact ⟨hz, hp.2⟩
  · have hx' := h.2.2 x (.tail _ hx)
    refine ⟨hx'.1.grown hg hp.1.blk (fun e => ?_), hx'.2⟩
    exact (List.nodup_cons.1 h.2.1).1 (List.mem_map.2 ⟨x, hx, e⟩)
theorem Hs.swap {w W : World} {l : List (Nat × Int)} {a b : Nat × Int} (h : Hs w W (a :: b :: l)) : Hs w W (b :: a :: l) :=
  ⟨h.1, (List.Perm.swap b.1 a.1 (l.map Prod.fst)).nodup_iff.1 h.2.1 |> fun h => h, fun x hx => h.2.2 x (by
    rcases List.mem_cons.1 hx with rfl | hx
    · exact .tail _ (.head _)
    · rcases List.mem_cons.1 hx with rfl | hx
      · exact .head _
      · exact .tail _ (.tail _ hx))⟩
theorem Hs.tail {w W : World} {l : List (Nat × Int)} {a : Nat × Int} (h : Hs w W (a :: l)) : Hs w W l :=
  ⟨h.1, (List.nodup_cons.1 h.2.1).2, fun x hx => h.2.2 x (.tail _ hx)⟩
theorem Hs.drop2 {w W : World} {l : List (Nat × Int)} {a b : Nat × Int} (h : Hs w W (a :: b :: l)) : Hs w W (a :: l) := h.swap.tail
end Go.Proofs.Ytjddhnjjeomfjaa.Hs
end
section
set_option linter.unusedVariables false
set_option linter.unusedSimpArgs false
namespace Go.Proofs.Ytjddhnjjeomfjaa.Nr
open Go.RowKit Go.Proofs.Ytjddhnjjeomfjaa.Hs Go.Proofs.YtjddhnjjeomfjaaW.PrintWords Go.Proofs.Ytjddhnjjeomfjaa.PW Go.Proofs.Ytjddhnjjeomfjaa.Pc Go.Proofs.Ytjddhnjjeomfjaa.Pb Go.Proofs.Ytjddhnjjeomfjaa.Pw Go.Proofs.Ytjddhnjjeomfjaa.Pm Go.Proofs.Ytjddhnjjeomfjaa.Ma Go.Proofs.Ytjddhnjjeomfjaa.Mb Go.Proofs.Ytjddhnjjeomfjaa.Mc Go.Proofs.Ytjddhnjjeomfjaa.Me Go.Proofs.Ytjddhnjjeomfjaa.Mh Go.Proofs.Ytjddhnjjeomfjaa.Mk Go.Proofs.Ytjddhnjjeomfjaa.Mu Go.Proofs.Ytjddhnjjeomfjaa.Na Go.Proofs.Ytjddhnjjeomfjaa.Nb Go.Proofs.Ytjddhnjjeomfjaa.Re Go.Proofs.Ytjddhnjjeomfjaa.Ve Go.Proofs.Ytjddhnjjeomfjaa.Vg Dg Fp
theorem cells1 {W : World} {g : Nat} {u : Value} {t : Nat} (hg : W.heap[g]? = some (.cells #[u] t (0, 0))) : W.cell? ⟨g, 0, none⟩ = some u ∧ W.frozen? ⟨g, 0, none⟩ = false ∧ g < W.heap.size :=
  ⟨blk_cell hg 0, blk_frozen hg 0, (Array.getElem?_eq_some_iff.1 hg).1⟩
theorem tells_below {w w' : World} (h : ∃ n, w' = w.drewN n) : Below w.heap.size w w' := by
  obtain ⟨n, rfl⟩ := h
  exact below_drawn n
theorem newAt (w : World) (o : Obj) : (w.alloc o).heap[w.heap.size]? = some o := heap_alloc_new w o
theorem nround0 {w : World} {q : Nat} {e mode : Int} (hz : Z w q 0) :
    Calls Try.prog 35 #[.agg #[.pointer (some ⟨q, 0, none⟩), .int .i64 e], .int .i64 mode] w fun en w' => en = .returned (.tuple #[.float .f32 0, .int .i64 0]) ∧ Below w.heap.size w w' := by
  obtain ⟨W0, hW0⟩ : ∃ W0, W0 = (w.alloc (.cells #[.pointer (some ⟨q, 0, none⟩), .int .i64 e] 58)).alloc (.cells #[.int .i64 mode] 2) := ⟨_, rfl⟩
  obtain ⟨hb0, hx0, hx1, hs0⟩ := boxes2 w (.cells #[.pointer (some ⟨q, 0, none⟩), .int .i64 e] 58) (.cells #[.int .i64 mode] 2) W0 (by rw [hW0]; exact Below.refl _ _)
  have HS := Lib.hid (nsign (e := e) (hz.below hb0))
  have HB0 := Lib.hid hb0
  have HW := Lib.hid hW0
  obtain ⟨c0, c1, _, _, l0⟩ := cellsN hx0
  clear hb0 hx0 hx1 hW0 hz
  go_enter Try.func35, Try.ntmps35
  go_upto_region 1 with fail
  rw [← HW.out]
  clear HW
  go_wp2_with fail
  refine HS.out.mono ?_
  rintro en w1 ⟨rfl, hb⟩
  have HB1 := Lib.hid (below_then HB0.out hb)
  clear hb
  go_wp2
  go_ret2
  exact ⟨rfl, HB1.out⟩
def St (w W : World) (q : Nat) (z e mode : Int) (bs : Nat) : Prop :=
  W.heap[w.heap.size]? = some (.cells #[.pointer (some ⟨q, 0, none⟩), .int .i64 e] 58 (0, 0)) ∧ W.heap[w.heap.size + 1]? = some (.cells #[.int .i64 mode] 2 (0, 0)) ∧ W.heap[bs]? = some (.cells #[.int .i64 (sgn z)] 3 (0, 0)) ∧ Z W q z ∧ Below w.heap.size w W
theorem St.cells {w wc W : World} {q bs : Nat} {z e mode : Int} (h : St w wc q z e mode bs) (hb : Below wc.heap.size wc W) :
    (W.cell? ⟨w.heap.size, 0, none⟩ = some (.pointer (some ⟨q, 0, none⟩)) ∧ W.cell? ⟨w.heap.size, 1, none⟩ = some (.int .i64 e)) ∧ W.cell? ⟨w.heap.size + 1, 0, none⟩ = some (.int .i64 mode) ∧ W.cell? ⟨bs, 0, none⟩ = some (.int .i64 (sgn z)) ∧ Z W q z ∧ Below w.heap.size w W := by
  obtain ⟨h0, h1, h2, hz, hw⟩ := h
  have g0 := (hb.block _ (blk_lt h0)).trans h0
  have g1 := (hb.block _ (blk_lt h1)).trans h1
  have g2 := (hb.block _ (blk_lt h2)).trans h2
  exact ⟨⟨blk_cell g0 0, blk_cell g0 1⟩, blk_cell g1 0, blk_cell g2 0, hz.below hb, below_then hw hb⟩
theorem St.new {w W : World} {q : Nat} {z e mode : Int} (h0 : W.heap[w.heap.size]? = some (.cells #[.pointer (some ⟨q, 0, none⟩), .int .i64 e] 58 (0, 0))) (h1 : W.heap[w.heap.size + 1]? = some (.cells #[.int .i64 mode] 2 (0, 0))) (hz : Z W q z) (hb : Below w.heap.size w W) :
    St w (W.alloc (.cells #[.int .i64 (sgn z)] 3)) q z e mode W.heap.size :=
  ⟨blk_alloc h0 _, blk_alloc h1 _, newAt _ _, hz.below (Ma.below_alloc _ _), Go.Proofs.YtjddhnjjeomfjaaW.PrintWords.below_alloc hb _⟩
theorem St.set {w W : World} {q bs : Nat} {z e mode : Int} (h0 : W.heap[w.heap.size]? = some (.cells #[.pointer (some ⟨q, 0, none⟩), .int .i64 e] 58 (0, 0))) (h1 : W.heap[w.heap.size + 1]? = some (.cells #[.int .i64 mode] 2 (0, 0))) (hz : Z W q z) (hb : Below w.heap.size w W)
    (hs : W.heap[bs]? = some (.cells #[.int .i64 0] 3 (0, 0))) (hle : w.heap.size + 2 ≤ bs) : St w (W.setCell ⟨bs, 0, none⟩ (.int .i64 (sgn z))) q z e mode bs :=
  ⟨blk_far h0 (by simp; omega) _, blk_far h1 (by simp; omega) _, blk_set hs 0 _, zset hz hs (by decide) (by intro i x; match i with | 0 => simp | n + 1 => simp) 0 _, hb.setCell (p := ⟨bs, 0, none⟩) (by simp; omega) _⟩
theorem rt_up {z e mode Q : Int} (hQ : Q = rq (bl z.natAbs) e) (h : Q ≤ e) : rt z e mode = (z.natAbs * 2 ^ (e - Q).toNat, 0) := by
  unfold rt
  rw [← hQ, if_pos h]
theorem rt_exact {z e mode Q : Int} {k : Nat} (hQ : Q = rq (bl z.natAbs) e) (h : ¬ Q ≤ e) (hk : (k : Int) = Q - e) (hr : z.natAbs % 2 ^ k = 0) : rt z e mode = (z.natAbs / 2 ^ k, 0) := by
  have ek : (Q - e).toNat = k := by omega
  unfold rt
  rw [← hQ, if_neg h, ek, if_pos hr]
theorem rt_cut {z e mode Q : Int} {k : Nat} (hQ : Q = rq (bl z.natAbs) e) (h : ¬ Q ≤ e) (hk : (k : Int) = Q - e) (hr : z.natAbs % 2 ^ k ≠ 0) : rt z e mode = (z.natAbs / 2 ^ k + (if ups mode (sgn z) (z.natAbs / 2 ^ k) (z.natAbs % 2 ^ k) (2 ^ (k - 1)) = true then 1 else 0), if (bl z.natAbs : Int) + e ≤ -126 then 3 else 1) := by
  have ek : (Q - e).toNat = k := by omega
  unfold rt
  rw [← hQ, if_neg h, ek, if_neg hr]
theorem rest_of (n k : Nat) : (n : Int) - (n : Int) / 2 ^ k * 2 ^ k = ((n % 2 ^ k : Nat) : Int) := by
  have h := Nat.div_add_mod n (2 ^ k)
  have e1 : (n : Int) / 2 ^ k = ((n / 2 ^ k : Nat) : Int) := by push_cast; rfl
  have e2 : ((n / 2 ^ k : Nat) : Int) * 2 ^ k = ((n / 2 ^ k * 2 ^ k : Nat) : Int) := by push_cast; rfl
  rw [e1, e2]
  rw [Nat.mul_comm] at h
  omega
theorem sgn_nat {r : Nat} (h : r ≠ 0) : sgn (r : Int) = 1 := by unfold Pm.sgn; rw [if_neg (by omega), if_neg (by omega)]
theorem sgn_cases (x : Int) : (0 < x ∧ sgn x = 1) ∨ (x = 0 ∧ sgn x = 0) ∨ (x < 0 ∧ sgn x = -1) := by unfold Pm.sgn; split <;> (try split) <;> omega
theorem bl_div (n k : Nat) : bl (n / 2 ^ k) ≤ bl n := bl_mono (Nat.div_le_self _ _)
theorem bl_mod (n k : Nat) : bl (n % 2 ^ k) ≤ bl n := bl_mono (Nat.mod_le _ _)
theorem ups0 {s : Int} {t r h : Nat} : ups 0 s t r h = decide (h < r ∨ r = h ∧ t % 2 = 1) := rfl
theorem ups1 {s : Int} {t r h : Nat} : ups 1 s t r h = decide (s < 0) := rfl
theorem ups2 {s : Int} {t r h : Nat} : ups 2 s t r h = decide (0 < s) := rfl
theorem ups3 {s : Int} {t r h : Nat} : ups 3 s t r h = false := rfl
theorem ups4 {s : Int} {t r h : Nat} : ups 4 s t r h = true := rfl
theorem ldexpT {t : Nat} {Q : Int} (ht : t ≤ 16777216) (h1 : -149 ≤ Q) (h2 : Q ≤ 104) (w : World) :
    Calls Try.prog 54 #[.float .f64 (floatOfInt .f64 (t : Int)), .int .i64 Q] w fun e' w' => (∃ r, e' = .returned (.float .f64 r) ∧ IsN Ieee.double r false (V t Q)) ∧ w = w' := by
  have hb := ofInt64 (t : Int) (by omega) (by omega)
  rw [Int.natAbs_natCast, show decide ((t : Int) < 0) = false from decide_eq_false (by omega)] at hb
  by_cases h0 : t = 0
  · subst h0
    refine (mLdexp0 hb Q w).mono ?_
    rintro e' w' ⟨rfl, rfl⟩
    rw [V_zero] at hb
    exact ⟨⟨_, rfl, by rw [V_zero]; exact hb⟩, rfl⟩
  · exact mLdexp hb (by omega) (by omega) (by omega) (by omega) w
theorem convT {r t : Nat} {Q : Int} (hr : IsN Ieee.double r false (V t Q)) (ht : t ≤ 16777216) (h1 : -149 ≤ Q) (h2 : (bl t : Int) + Q ≤ 128) (h3 : Q ≤ 104) (w : World) : (convert 36 28 (.float .f64 r)).run Try.prog w = .ok (.float .f32 (Ieee.single.nearest false t Q)) w :=
  run_convert_float_float (P := Try.prog) w 36 28 .f64 .f32 r (Ieee.single.nearest false t Q) (by rw [Try.underlying36]; rfl) Try.underlying28 (Rf.narrow_t hr ht h1 h2 h3)
theorem negT {t : Nat} {Q : Int} (ht : t ≤ 16777216) (h1 : -149 ≤ Q) (h2 : (bl t : Int) + Q ≤ 128) (h3 : Q ≤ 104) : Op.negFloat .f32 (Ieee.single.nearest false t Q) = Ieee.single.nearest true t Q := by
  rw [We.neg32 _ (Rf.near_lt false ht h1 h2 h3).1, Rf.opp_near ht h1 h2 h3]
set_option maxRecDepth 20000 in
set_option maxHeartbeats 1600000 in
theorem nround {w : World} {q : Nat} {z e mode : Int} (hz : Z w q z) (h0 : z ≠ 0) (h1 : bl z.natAbs ≤ 1000000) (h2 : -1000000 ≤ e) (h3 : e ≤ 1000000) (h4 : 0 ≤ mode) (h5 : mode ≤ 4) :
    Calls Try.prog 35 #[.agg #[.pointer (some ⟨q, 0, none⟩), .int .i64 e], .int .i64 mode] w fun en w' => en = .returned (.tuple #[.float .f32 (rnd z e mode).1, .int .i64 (rnd z e mode).2]) ∧ Below w.heap.size w w' := by
  obtain ⟨W0, hW0⟩ : ∃ W0, W0 = (w.alloc (.cells #[.pointer (some ⟨q, 0, none⟩), .int .i64 e] 58)).alloc (.cells #[.int .i64 mode] 2) := ⟨_, rfl⟩
  obtain ⟨hb0, hx0, hx1, hs0⟩ := boxes2 w (.cells #[.pointer (some ⟨q, 0, none⟩), .int .i64 e] 58) (.cells #[.int .i64 mode] 2) W0 (by rw [hW0]; exact Below.refl _ _)
  have hz0 := hz.below hb0
  have HS := Lib.hid (fun (W : World) (hb : Below W0.heap.size W0 W) => nsign (e := e) (hz0.below hb))
  have HL := Lib.hid (fun (W : World) (hb : Below W0.heap.size W0 W) => Me.bitLen (hz0.below hb) (by omega))
  have HB0 := Lib.hid hb0
  have HX0 := Lib.hid hx0
  have HX1 := Lib.hid hx1
  have HZ0 := Lib.hid hz0
  have HW := Lib.hid hW0
  have hsg : sgn z ≠ 0 := by unfold Pm.sgn; split <;> (try split) <;> omega
  obtain ⟨c0, c1, _, _, l0⟩ := cellsN hx0
  obtain ⟨d0, _, l1⟩ := cells1 hx1
  clear hb0 hx0 hx1 hW0 hz hz0
  go_enter Try.func35, Try.ntmps35
  go_upto_region 1 with fail
  rw [← HW.out]
  clear HW
  go_wp2_with fail
  refine (HS.out _ (Below.refl _ _)).mono ?_
  rintro en w1 ⟨rfl, hb⟩
  have hx0 := (hb.block _ l0).trans HX0.out
  have hx1 := (hb.block _ l1).trans HX1.out
  have HB1 := Lib.hid hb
  clear c0 c1 d0 hb
  have HX0b := Lib.hid hx0
  have HX1b := Lib.hid hx1
  obtain ⟨c0, c1, _, _, k0⟩ := cellsN hx0
  obtain ⟨d0, _, k1⟩ := cells1 hx1
  clear hx0 hx1
  have n1a : w.heap.size ≠ w1.heap.size := by omega
  have n1b := Ne.symm n1a
  go_upto_region 3 with fail
  go_cut [6, 7] (fun v6 v7 wc => v7 = .int .i64 ((bl z.natAbs : Nat) : Int) ∧ ∃ bs, v6 = .pointer (some ⟨bs, 0, none⟩) ∧ Hid (St w wc q z e mode bs))
  case first =>
    go_region_held3 (fun w' => w'.cell? ⟨w.heap.size, 0, none⟩ = some (.pointer (some ⟨q, 0, none⟩)) ∧ w'.cell? ⟨w.heap.size, 1, none⟩ = some (.int .i64 e)) (go_keep)
      (first
        | (go_at_call 63; (first
          | (refine (HS.out _ (Go.Proofs.YtjddhnjjeomfjaaW.PrintWords.below_alloc HB3.out _)).mono ?_; rintro en w2 ⟨rfl, hb⟩; have hb2 := below_then (Go.Proofs.YtjddhnjjeomfjaaW.PrintWords.below_alloc HB3.out _) hb; have hs := (hb.block w3.heap.size (by simp)).trans (newAt _ _); obtain ⟨s0, s1, s2⟩ := cells1 hs; have HS2 := Lib.hid hs; have hx0 := (hb2.block _ l0).trans HX0.out; obtain ⟨c0, c1, _, _, k0⟩ := cellsN hx0; have HB2 := Lib.hid hb2; have n2a : w.heap.size ≠ w2.heap.size := (by have := hb2.size; omega); have n2b := Ne.symm n2a; clear hb hb2 hx0 hs)
          | (refine (HS.out _ HB3.out).mono ?_; rintro en w2 ⟨rfl, hb⟩; have hb2 := below_then HB3.out hb; have hs := (hb.block _ (cells1 HS3.out).2.2).trans HS3.out; obtain ⟨s0, s1, s2⟩ := cells1 hs; have HS2 := Lib.hid hs; have hx0 := (hb2.block _ l0).trans HX0.out; obtain ⟨c0, c1, _, _, k0⟩ := cellsN hx0; have HB2 := Lib.hid hb2; have n2a : w.heap.size ≠ w2.heap.size := (by have := hb2.size; omega); have n2b := Ne.symm n2a; clear hb hb2 hx0 hs)
          | (refine (HS.out _ HB3.out).mono ?_; rintro en w2 ⟨rfl, hb⟩; have hb2 := below_then HB3.out hb; have hx0 := (hb2.block _ l0).trans HX0.out; obtain ⟨c0, c1, _, _, k0⟩ := cellsN hx0; have HB2 := Lib.hid hb2; have n2a : w.heap.size ≠ w2.heap.size := (by have := hb2.size; omega); have n2b := Ne.symm n2a; clear hb hb2 hx0)
          | (refine (HS.out _ (Go.Proofs.YtjddhnjjeomfjaaW.PrintWords.below_alloc HB1.out.drew _)).mono ?_; rintro en w2 ⟨rfl, hb⟩; have hb2 := below_then (Go.Proofs.YtjddhnjjeomfjaaW.PrintWords.below_alloc HB1.out.drew _) hb; have hs := (hb.block w1.heap.size (by simp)).trans (newAt _ _); obtain ⟨s0, s1, s2⟩ := cells1 hs; have HS2 := Lib.hid hs; have hx0 := (hb2.block _ l0).trans HX0.out; obtain ⟨c0, c1, _, _, k0⟩ := cellsN hx0; have HB2 := Lib.hid hb2; have n2a : w.heap.size ≠ w2.heap.size := (by have := hb2.size; omega); have n2b := Ne.symm n2a; clear hb hb2 hx0 hs)
          | (refine (HS.out _ HB1.out.drew).mono ?_; rintro en w2 ⟨rfl, hb⟩; have hb2 := below_then HB1.out.drew hb; have hs := (hb.block _ (cells1 HS3.out).2.2).trans HS3.out; obtain ⟨s0, s1, s2⟩ := cells1 hs; have HS2 := Lib.hid hs; have hx0 := (hb2.block _ l0).trans HX0.out; obtain ⟨c0, c1, _, _, k0⟩ := cellsN hx0; have HB2 := Lib.hid hb2; have n2a : w.heap.size ≠ w2.heap.size := (by have := hb2.size; omega); have n2b := Ne.symm n2a; clear hb hb2 hx0 hs)
          | (refine (HS.out _ HB1.out.drew).mono ?_; rintro en w2 ⟨rfl, hb⟩; have hb2 := below_then HB1.out.drew hb; have hx0 := (hb2.block _ l0).trans HX0.out; obtain ⟨c0, c1, _, _, k0⟩ := cellsN hx0; have HB2 := Lib.hid hb2; have n2a : w.heap.size ≠ w2.heap.size := (by have := hb2.size; omega); have n2b := Ne.symm n2a; clear hb hb2 hx0)))
        | (go_at_call 64; (first
          | (refine (HL.out _ (Go.Proofs.YtjddhnjjeomfjaaW.PrintWords.below_alloc HB2.out _)).mono ?_; rintro en w3 ⟨rfl, hd⟩; have hb := tells_below hd; clear hd; have hb2 := below_then (Go.Proofs.YtjddhnjjeomfjaaW.PrintWords.below_alloc HB2.out _) hb; have hs := (hb.block w2.heap.size (by simp)).trans (newAt _ _); obtain ⟨s0, s1, s2⟩ := cells1 hs; have HS3 := Lib.hid hs; have hx0 := (hb2.block _ l0).trans HX0.out; obtain ⟨c0, c1, _, _, k0⟩ := cellsN hx0; have HB3 := Lib.hid hb2; have n3a : w.heap.size ≠ w3.heap.size := (by have := hb2.size; omega); have n3b := Ne.symm n3a; clear hb hb2 hx0 hs)
          | (refine (HL.out _ HB2.out).mono ?_; rintro en w3 ⟨rfl, hd⟩; have hb := tells_below hd; clear hd; have hb2 := below_then HB2.out hb; have hs := (hb.block _ (cells1 HS2.out).2.2).trans HS2.out; obtain ⟨s0, s1, s2⟩ := cells1 hs; have HS3 := Lib.hid hs; have hx0 := (hb2.block _ l0).trans HX0.out; obtain ⟨c0, c1, _, _, k0⟩ := cellsN hx0; have HB3 := Lib.hid hb2; have n3a : w.heap.size ≠ w3.heap.size := (by have := hb2.size; omega); have n3b := Ne.symm n3a; clear hb hb2 hx0 hs)
          | (refine (HL.out _ HB2.out).mono ?_; rintro en w3 ⟨rfl, hd⟩; have hb := tells_below hd; clear hd; have hb2 := below_then HB2.out hb; have hx0 := (hb2.block _ l0).trans HX0.out; obtain ⟨c0, c1, _, _, k0⟩ := cellsN hx0; have HB3 := Lib.hid hb2; have n3a : w.heap.size ≠ w3.heap.size := (by have := hb2.size; omega); have n3b := Ne.symm n3a; clear hb hb2 hx0)
          | (refine (HL.out _ (Go.Proofs.YtjddhnjjeomfjaaW.PrintWords.below_alloc HB1.out.drew _)).mono ?_; rintro en w3 ⟨rfl, hd⟩; have hb := tells_below hd; clear hd; have hb2 := below_then (Go.Proofs.YtjddhnjjeomfjaaW.PrintWords.below_alloc HB1.out.drew _) hb; have hs := (hb.block w1.heap.size (by simp)).trans (newAt _ _); obtain ⟨s0, s1, s2⟩ := cells1 hs; have HS3 := Lib.hid hs; have hx0 := (hb2.block _ l0).trans HX0.out; obtain ⟨c0, c1, _, _, k0⟩ := cellsN hx0; have HB3 := Lib.hid hb2; have n3a : w.heap.size ≠ w3.heap.size := (by have := hb2.size; omega); have n3b := Ne.symm n3a; clear hb hb2 hx0 hs)
          | (refine (HL.out _ HB1.out.drew).mono ?_; rintro en w3 ⟨rfl, hd⟩; have hb := tells_below hd; clear hd; have hb2 := below_then HB1.out.drew hb; have hs := (hb.block _ (cells1 HS2.out).2.2).trans HS2.out; obtain ⟨s0, s1, s2⟩ := cells1 hs; have HS3 := Lib.hid hs; have hx0 := (hb2.block _ l0).trans HX0.out; obtain ⟨c0, c1, _, _, k0⟩ := cellsN hx0; have HB3 := Lib.hid hb2; have n3a : w.heap.size ≠ w3.heap.size := (by have := hb2.size; omega); have n3b := Ne.symm n3a; clear hb hb2 hx0 hs)
          | (refine (HL.out _ HB1.out.drew).mono ?_; rintro en w3 ⟨rfl, hd⟩; have hb := tells_below hd; clear hd; have hb2 := below_then HB1.out.drew hb; have hx0 := (hb2.block _ l0).trans HX0.out; obtain ⟨c0, c1, _, _, k0⟩ := cellsN hx0; have HB3 := Lib.hid hb2; have n3a : w.heap.size ≠ w3.heap.size := (by have := hb2.size; omega); have n3b := Ne.symm n3a; clear hb hb2 hx0))))
    all_goals go_wp2_with fail
    all_goals go_meet
    all_goals
      have hb3 := HB3.out
      have hx0 := (hb3.block _ l0).trans HX0.out
      have hx1 := (hb3.block _ l1).trans HX1.out
      have hz3 := HZ0.out.below hb3
      have hbw := below_then HB0.out hb3
    all_goals first
      | exact ⟨rfl, _, rfl, Lib.hid (St.new hx0 hx1 hz3 hbw)⟩
      | exact ⟨rfl, _, rfl, Lib.hid (St.set hx0 hx1 hz3 hbw HS3.out (by have := HB1.out.size; omega))⟩
      | exact ⟨rfl, _, rfl, Lib.hid (St.set hx0 hx1 hz3 hbw HS3.out (by have := HB2.out.size; omega))⟩
  case rest =>
    obtain ⟨rfl, bs, rfl, HST⟩ := hcut
    clear c0 c1 d0 n1a n1b HX0b HX1b HX0 HX1 HZ0 HB0 HB1 HS HL l0 l1 hs0 k0 k1
    have stay := Lib.hid (fun (W : World) (hb : Below wc.heap.size wc W) => St.cells HST.out hb)
    have hmf : ∀ (fn : Fn) (first cap : Array Value) (w : World), (Instr.makeFunc fn first cap).run Try.prog w = .ok (.func fn first cap) w := fun _ _ _ _ => rfl
    have hs1 : sgn z = 1 ∨ sgn z = -1 := by unfold Pm.sgn; split <;> (try split) <;> omega
    obtain ⟨⟨c0, c1⟩, d0, e0, hz, hbw⟩ := stay.out wc (Below.refl _ _)
    have HO := Lib.hid (fun (W : World) (hb : Below wc.heap.size wc W) => cOver (stay.out W hb).2.1 (stay.out W hb).2.2.1 hs1 ⟨h4, h5⟩)
    by_cases hov : 128 < (bl z.natAbs : Int) + e
    · have hr : rnd z e mode = (ovr (sgn z) mode, 5) := by
        unfold rnd
        rw [if_neg h0, if_pos hov]
      have HR := Lib.hid hr
      have HBW := Lib.hid hbw
      clear hr hz hbw hs1
      go_wp2_with fail
      refine (HO.out _ (Below.refl _ _)).mono ?_
      rintro en w5 ⟨rfl, rfl⟩
      go_wp2
      go_ret2
      exact ⟨by rw [HR.out]; rfl, HBW.out⟩
    · have HOV := Lib.hid hov
      have hov1 : (bl z.natAbs : Int) + e ≤ 128 := by omega
      obtain ⟨Q, hQ⟩ : ∃ Q, Q = rq (bl z.natAbs) e := ⟨_, rfl⟩
      have HQ := Lib.hid hQ
      have q1 : (bl z.natAbs : Int) + e - 24 < -149 → Q = -149 := fun h => by rw [hQ]; unfold rq; rw [if_pos h]
      have q2 : ¬ (bl z.natAbs : Int) + e - 24 < -149 → Q = (bl z.natAbs : Int) + e - 24 := fun h => by rw [hQ]; unfold rq; rw [if_neg h]
      clear hov hQ
      have HQ1 := Lib.hid q1
      have HQ2 := Lib.hid q2
      have HZ := Lib.hid hz
      have HBW := Lib.hid hbw
      clear q1 q2 hz hbw
      go_upto_region 7 with fail
      go_cut [9] (fun v9 wx => v9 = .int .i64 Q ∧ wx = wc)
      case first =>
        rcases Int.lt_trichotomy ((bl z.natAbs : Int) + e - 24) (-149) with h | h | h
        all_goals go_wp2
        all_goals go_meet
        · exact ⟨by rw [HQ1.out (by omega)], rfl⟩
        · exact ⟨by rw [HQ2.out (by omega), h], rfl⟩
        · exact ⟨by rw [HQ2.out (by omega)], rfl⟩
      case rest =>
        obtain ⟨rfl, rfl⟩ := hcut
        have HA := Lib.hid (fun (W : World) (hb : Below wc.heap.size wc W) => Me.abs (Z.new W).blk ((stay.out W hb).2.2.2.1.below (Ma.below_alloc W _)) (by omega))
        have l0 : w.heap.size < wc.heap.size := blk_lt HST.out.1
        have l1 : w.heap.size + 1 < wc.heap.size := blk_lt HST.out.2.1
        have l2 : bs < wc.heap.size := blk_lt HST.out.2.2.1
        go_wp2_with fail
        refine (HA.out wc (Below.refl _ _)).mono ?_
        rintro en w5 ⟨rfl, hza, hga⟩
        have HS5 := Lib.hid ((Hs.nil wc).new.put hza hga)
        clear c0 c1 d0 e0 hza hga
        go_upto_region 11 with fail
        have HT := Lib.hid (Hs.new HS5.out)
        clear HS5
        generalize hW : w5.alloc (.cells #[.bool false, .slice none 0 0] 89) = w6 at HT ⊢
        clear hW
        generalize hT : w5.heap.size = T at HT ⊢
        clear hT
        obtain ⟨⟨c0, c1⟩, d0, e0, -, -⟩ := stay.out w6 HT.out.1
        have hq0 : -149 ≤ Q := by have h := HQ.out; rw [h]; exact (Rf.rq_bd _ _).1
        have hq1 : Q ≤ 104 := by have h := HQ.out; rw [h]; exact Rf.rq_le hov1
        have hnn : bl ((z.natAbs : Nat) : Int).natAbs ≤ 1000000 := by rw [Int.natAbs_natCast]; exact h1
        go_upto_if 50 with fail
        go_cut [11] (fun v11 wx => v11 = .int .i64 (rt z e mode).2 ∧ Hid (Hs wc wx [(T, ((rt z e mode).1 : Int)), (wc.heap.size, (z.natAbs : Int))]))
        case first =>
          by_cases hge : Q ≤ e
          · have ek : e - Q = ((e - Q).toNat : Int) := by omega
            have HL := Lib.hid (ek.symm ▸ Md.lsh (n := (e - Q).toNat) (HT.out.get (.head _)).blk (HT.out.get (.tail _ (.head _))) (by omega) (by omega))
            have HRT := Lib.hid (rt_up (mode := mode) HQ.out hge)
            clear ek
            go_wp2_with fail
            refine HL.out.mono ?_
            rintro en w7 ⟨rfl, hz7, hg7⟩
            have H7 := Lib.hid (HT.out.put hz7 hg7)
            clear hz7 hg7
            go_wp2_with fail
            go_meet
            rw [HRT.out]
            have h7 := H7.out
            rw [show (z.natAbs : Int) * 2 ^ (e - Q).toNat = ((z.natAbs * 2 ^ (e - Q).toNat : Nat) : Int) by push_cast; rfl] at h7
            exact ⟨rfl, Lib.hid h7⟩
          · obtain ⟨k, hk⟩ : ∃ k : Nat, (k : Int) = Q - e := ⟨(Q - e).toNat, by omega⟩
            have hk1 : 1 ≤ k := by omega
            have hk2 : k ≤ 2000000 := by omega
            have HR := Lib.hid (hk ▸ Mk.rsh (n := k) (HT.out.get (.head _)).blk (HT.out.get (.tail _ (.head _))) (by omega) (by omega))
            have hbd := bl_div z.natAbs k
            have hbm := bl_mod z.natAbs k
            have hpw : bl (2 ^ (k - 1)) ≤ k := by rw [← Nat.one_mul (2 ^ (k - 1)), bl_shift (by decide)]; show 1 + (k - 1) ≤ k; omega
            go_wp2_with fail
            refine HR.out.mono ?_
            rintro en w7 ⟨rfl, hz7, hg7⟩
            have h7 := HT.out.put hz7 hg7
            rw [show (z.natAbs : Int) / 2 ^ k = ((z.natAbs / 2 ^ k : Nat) : Int) by push_cast; rfl] at h7
            clear hz7 hg7 HR c0 c1 d0 e0
            have h9 := h7.new.new
            rw [Mu.alloc_size] at h9
            have HL := Lib.hid (hk ▸ Md.lsh (n := k) (h9.get (.head _)).blk (h9.get (.tail _ (.tail _ (.head _)))) (by rw [Int.natAbs_natCast]; omega) (by omega))
            have H9 := Lib.hid h9
            clear h7 h9
            go_wp2_with fail
            refine HL.out.mono ?_
            rintro en w10 ⟨rfl, hz, hg⟩
            have h10 := (H9.out.put hz hg).swap
            have HSB := Lib.hid (Mj.sub (h10.get (.head _)).blk (h10.get (.tail _ (.tail _ (.tail _ (.head _))))) (h10.get (.tail _ (.head _))) (by omega) (by rw [Rf.natAbs_two, Int.natAbs_natCast]; exact Nat.le_trans (bl_mono (Nat.div_mul_le_self _ _)) (by omega)))
            have H10 := Lib.hid h10
            clear h10 hz hg HL H9
            go_wp2_with fail
            refine HSB.out.mono ?_
            rintro en w11 ⟨rfl, hz, hg⟩
            have h11 := (H10.out.put hz hg).drop2
            rw [show ((z.natAbs / 2 ^ k : Nat) : Int) = (z.natAbs : Int) / 2 ^ k by push_cast; rfl, rest_of] at h11
            rw [show (z.natAbs : Int) / 2 ^ k = ((z.natAbs / 2 ^ k : Nat) : Int) by push_cast; rfl] at h11
            clear hz hg HSB H10
            generalize w7.heap.size = R at h11 ⊢
            have HSG := Lib.hid (Me.sign (h11.get (.head _)))
            have H11 := Lib.hid h11
            obtain ⟨⟨c0, c1⟩, d0, e0, -, -⟩ := stay.out w11 h11.1
            clear h11
            by_cases hr : z.natAbs % 2 ^ k = 0
            · have HRT := Lib.hid (rt_exact (mode := mode) HQ.out (by omega) hk hr)
              rw [hr] at HSG
              go_wp2_with fail
              refine HSG.out.mono ?_
              rintro en w12 ⟨rfl, rfl⟩
              go_wp2_with fail
              go_meet
              rw [HRT.out]
              exact ⟨rfl, Lib.hid H11.out.tail⟩
            · have HRT := Lib.hid (rt_cut (mode := mode) HQ.out (by omega) hk hr)
              rw [sgn_nat hr] at HSG
              go_wp2_with fail
              refine HSG.out.mono ?_
              rintro en w12 ⟨rfl, rfl⟩
              go_upto_if 82 with fail
              obtain ⟨F, hF⟩ : ∃ F : Int, F = if (bl z.natAbs : Int) + e ≤ -126 then 3 else 1 := ⟨_, rfl⟩
              have HF := Lib.hid hF
              rw [← hF] at HRT
              clear hF
              go_cut [11] (fun v11 wx => v11 = .int .i64 F ∧ wx = w11)
              case first =>
                by_cases ht : (bl z.natAbs : Int) + e ≤ -126
                · go_wp2_with fail
                  go_meet
                  rw [HF.out, if_pos ht]
                  exact ⟨rfl, rfl⟩
                · go_wp2_with fail
                  go_meet
                  rw [HF.out, if_neg (by omega)]
                  exact ⟨rfl, rfl⟩
              case rest =>
                obtain ⟨rfl, rfl⟩ := hcut
                have h12 := H11.out.new
                obtain ⟨⟨c0, c1⟩, d0, e0, -, -⟩ := stay.out _ h12.1
                have HN := Lib.hid (fun (W : World) => Mc.newInt (w := W) (n := 1) (by decide) (by decide))
                have H12 := Lib.hid h12
                clear h12
                go_wp2_with fail
                refine (HN.out _).mono ?_
                rintro en w13 ⟨g, rfl, hz, hgl, hb⟩
                have h13 := (H12.out.news hz hgl hb).swap
                have hk3 : (Q - e - 1) = ((k - 1 : Nat) : Int) := by omega
                have HL := Lib.hid (hk3.symm ▸ Md.lsh (n := k - 1) (h13.get (.head _)).blk (h13.get (.tail _ (.head _))) (by decide) (by omega))
                have H13 := Lib.hid h13
                clear h13 hz hgl hb H12 hk3
                go_wp2_with fail
                refine HL.out.mono ?_
                rintro en w14 ⟨rfl, hz, hg⟩
                have h14 := (H13.out.put hz hg).drop2.swap
                rw [show (1 : Int) * 2 ^ (k - 1) = ((2 ^ (k - 1) : Nat) : Int) by push_cast; rw [Int.one_mul]] at h14
                have hC := Mi.cmp (h14.get (.head _)) (h14.get (.tail _ (.head _))) (by rw [Int.natAbs_natCast]; omega) (by rw [Int.natAbs_natCast]; omega)
                obtain ⟨hf, hhf⟩ : ∃ hf, hf = sgn (((z.natAbs % 2 ^ k : Nat) : Int) - ((2 ^ (k - 1) : Nat) : Int)) := ⟨_, rfl⟩
                rw [← hhf] at hC
                have HC := Lib.hid hC
                have HHF := Lib.hid hhf
                clear hC hhf
                have H14 := Lib.hid h14
                clear h14 hz hg HL H13
                go_wp2_with fail
                refine HC.out.mono ?_
                rintro en w15 ⟨rfl, hd⟩
                have h15 := ((H14.out.below (tells_below hd)).tail.tail)
                obtain ⟨⟨c0, c1⟩, d0, e0, -, -⟩ := stay.out _ h15.1
                have H15 := Lib.hid h15
                clear h15 hd H14 HC
                go_upto_block 0 with fail
                obtain ⟨U, hU⟩ : ∃ U : Bool, U = ups mode (sgn z) (z.natAbs / 2 ^ k) (z.natAbs % 2 ^ k) (2 ^ (k - 1)) := ⟨_, rfl⟩
                rw [← hU] at HRT
                have HU := Lib.hid hU
                clear hU
                go_cut [16] (fun v16 wx => v16 = .bool U ∧ wx = w15)
                case first =>
                  have hbit := Nb.bit (i := 0) (H15.out.get (.head _)) (by decide)
                  have hm5 : mode = 0 ∨ mode = 1 ∨ mode = 2 ∨ mode = 3 ∨ mode = 4 := by omega
                  have HB := Lib.hid hbit
                  have hsc := sgn_cases (((z.natAbs % 2 ^ k : Nat) : Int) - ((2 ^ (k - 1) : Nat) : Int))
                  rw [← HHF.out] at hsc
                  clear hbit
                  rcases hm5 with rfl | rfl | rfl | rfl | rfl
                  · rw [Int.natAbs_natCast, Nat.pow_zero, Nat.div_one] at HB
                    rcases hsc with ⟨hc, hs⟩ | ⟨hc, hs⟩ | ⟨hc, hs⟩
                    · subst hs
                      have hu : U = true := by rw [HU.out, ups0, decide_eq_true (by omega)]
                      clear hc HHF
                      go_wp2_with fail
                      go_meet
                      exact ⟨by rw [hu], rfl⟩
                    · subst hs
                      have hu : U = decide (z.natAbs / 2 ^ k % 2 = 1) := by rw [HU.out, ups0]; congr 1; exact propext ⟨fun h => by omega, fun h => by omega⟩
                      clear hc HHF
                      rcases Nat.mod_two_eq_zero_or_one (z.natAbs / 2 ^ k) with hb | hb
                      · rw [hb] at HB
                        have hu2 : U = false := by rw [hu, hb]; rfl
                        clear hu hb
                        go_wp2_with (first | (go_at_call 74; refine HB.out.mono ?_; rintro en w16 ⟨rfl, rfl⟩))
                        go_meet
                        exact ⟨by rw [hu2], rfl⟩
                      · rw [hb] at HB
                        have hu2 : U = true := by rw [hu, hb]; rfl
                        clear hu hb
                        go_wp2_with (first | (go_at_call 74; refine HB.out.mono ?_; rintro en w16 ⟨rfl, rfl⟩))
                        go_meet
                        exact ⟨by rw [hu2], rfl⟩
                    · subst hs
                      have hu : U = false := by rw [HU.out, ups0, decide_eq_false (by omega)]
                      clear hc HHF
                      go_wp2_with fail
                      go_meet
                      exact ⟨by rw [hu], rfl⟩
                  · have hu : U = decide (sgn z < 0) := by rw [HU.out, ups1]
                    clear hsc
                    go_wp2_with fail
                    go_meet
                    exact ⟨by rw [hu], rfl⟩
                  · have hu : U = decide (0 < sgn z) := by rw [HU.out, ups2]
                    clear hsc
                    go_wp2_with fail
                    go_meet
                    exact ⟨by rw [hu], rfl⟩
                  · have hu : U = false := by rw [HU.out, ups3]
                    clear hsc
                    go_wp2_with fail
                    go_meet
                    exact ⟨by rw [hu], rfl⟩
                  · have hu : U = true := by rw [HU.out, ups4]
                    clear hsc
                    go_wp2_with fail
                    go_meet
                    exact ⟨by rw [hu], rfl⟩
                case rest =>
                  obtain ⟨rfl, rfl⟩ := hcut
                  cases hu : U with
                  | false =>
                    subst hu
                    rw [if_neg (by decide)] at HRT
                    go_wp2_with fail
                    go_meet
                    rw [HRT.out]
                    exact ⟨rfl, H15⟩
                  | true =>
                    subst hu
                    rw [if_pos rfl] at HRT
                    go_wp2_with fail
                    refine (HN.out _).mono ?_
                    rintro en w16 ⟨g6, rfl, hz, hgl, hb⟩
                    have h16 := (H15.out.news hz hgl hb).swap
                    have HAD := Lib.hid (Mj.add (h16.get (.head _)).blk (h16.get (.head _)) (h16.get (.tail _ (.head _))) (by rw [Int.natAbs_natCast]; omega) (by decide))
                    have H16 := Lib.hid h16
                    clear h16 hz hgl hb
                    go_wp2_with fail
                    refine HAD.out.mono ?_
                    rintro en w17 ⟨rfl, hz, hg⟩
                    have h17 := (H16.out.put hz hg).drop2
                    rw [show ((z.natAbs / 2 ^ k : Nat) : Int) + 1 = ((z.natAbs / 2 ^ k + 1 : Nat) : Int) by push_cast; rfl] at h17
                    have H17 := Lib.hid h17
                    clear h17 hz hg HAD H16
                    go_wp2_with fail
                    go_meet
                    rw [HRT.out]
                    exact ⟨rfl, H17⟩
        case rest =>
          obtain ⟨rfl, HX⟩ := hcut
          have htl := Rf.rt_le z e mode
          have hR1 : 128 < (bl (rt z e mode).1 : Int) + Q → rnd z e mode = (ovr (sgn z) mode, 5) := fun h => by
            have hov := HOV.out
            rw [HQ.out] at h
            unfold rnd
            rw [if_neg h0, if_neg (by omega), if_pos h]
          have hR2 : ¬ 128 < (bl (rt z e mode).1 : Int) + Q → rnd z e mode = (Ieee.single.nearest (decide (z < 0)) (rt z e mode).1 Q, (rt z e mode).2) := fun h => by
            have hov := HOV.out
            rw [HQ.out] at h ⊢
            unfold rnd
            rw [if_neg h0, if_neg (by omega), if_neg h]
          have HR1 := Lib.hid hR1
          have HR2 := Lib.hid hR2
          clear hR1 hR2 c0 c1 d0 e0
          generalize (rt z e mode).1 = t at *
          generalize (rt z e mode).2 = F at *
          have hbt : bl t ≤ 25 := bl_le (by omega)
          have hBL := Me.bitLen (HX.out.get (.head _)) (by rw [Int.natAbs_natCast]; omega)
          rw [Int.natAbs_natCast] at hBL
          have HBL := Lib.hid hBL
          clear hBL
          by_cases hov2 : 128 < (bl t : Int) + Q
          · have HR := Lib.hid (HR1.out hov2)
            clear HR1 HR2
            go_wp2_with fail
            refine HBL.out.mono ?_
            rintro en w8 ⟨rfl, hd⟩
            have H8 := Lib.hid (HX.out.below (tells_below hd))
            clear hd
            go_wp2_with fail
            refine (HO.out _ H8.out.1).mono ?_
            rintro en w9 ⟨rfl, rfl⟩
            go_wp2
            go_ret2
            exact ⟨by rw [HR.out]; rfl, (stay.out _ H8.out.1).2.2.2.2⟩
          · have HR := Lib.hid (HR2.out hov2)
            have HNG := Lib.hid (negT htl hq0 (by omega) hq1)
            have HC := Lib.hid (fun (r : Nat) (h : IsN Ieee.double r false (V t Q)) (W : World) => convT h htl hq0 (by omega) hq1 W)
            have HLD := Lib.hid (fun (W : World) => ldexpT htl hq0 hq1 W)
            clear HR1 HR2
            go_wp2_with fail
            refine HBL.out.mono ?_
            rintro en w8 ⟨rfl, hd⟩
            have H8 := Lib.hid (HX.out.below (tells_below hd))
            have HI := Lib.hid (Mk.int64 (H8.out.get (.head _)) (by omega) (by omega))
            obtain ⟨⟨c0, c1⟩, d0, e0, -, -⟩ := stay.out _ H8.out.1
            clear hd
            go_wp2_with fail
            refine HI.out.mono ?_
            rintro en w9 ⟨rfl, rfl⟩
            go_wp2_with fail
            refine (HLD.out _).mono ?_
            rintro en w9 ⟨⟨r, rfl, hr⟩, rfl⟩
            have hc := HC.out r hr
            clear hr
            rcases hs1 with hs1 | hs1
            · rw [hs1] at e0
              have hz : ¬ z < 0 := by have := sgn_cases z; omega
              have HR' := Lib.hid (show rnd z e mode = (Ieee.single.nearest false t Q, F) by rw [HR.out, decide_eq_false hz])
              clear hz
              go_wp2
              go_ret2
              exact ⟨by rw [HR'.out]; rfl, (stay.out _ H8.out.1).2.2.2.2⟩
            · rw [hs1] at e0
              have hz : z < 0 := by have := sgn_cases z; omega
              have HR' := Lib.hid (show rnd z e mode = (Ieee.single.nearest true t Q, F) by rw [HR.out, decide_eq_true hz])
              clear hz
              go_wp2
              go_ret2
              exact ⟨by rw [HR'.out, ← HNG.out]; rfl, (stay.out _ H8.out.1).2.2.2.2⟩
end Go.Proofs.Ytjddhnjjeomfjaa.Nr
end
section
set_option linter.unusedVariables false
set_option linter.unusedSimpArgs false
namespace Go.Proofs.Ytjddhnjjeomfjaa.Sr
open Go.RowKit Go.Proofs.YtjddhnjjeomfjaaW.PrintWords Go.Proofs.YtjddhnjjeomfjaaW.PrintMore Go.Proofs.Ytjddhnjjeomfjaa.PW Go.Proofs.Ytjddhnjjeomfjaa.Pb Go.Proofs.Ytjddhnjjeomfjaa.Pc Go.Proofs.Ytjddhnjjeomfjaa.Pm Go.Proofs.Ytjddhnjjeomfjaa.Pw Go.Proofs.Ytjddhnjjeomfjaa.Ps Go.Proofs.Ytjddhnjjeomfjaa.Px Go.Proofs.Ytjddhnjjeomfjaa.Ma Go.Proofs.Ytjddhnjjeomfjaa.Mh Go.Proofs.Ytjddhnjjeomfjaa.Mu Go.Proofs.Ytjddhnjjeomfjaa.Na Go.Proofs.Ytjddhnjjeomfjaa.Nd Go.Proofs.Ytjddhnjjeomfjaa.Re Go.Proofs.Ytjddhnjjeomfjaa.Rf Go.Proofs.Ytjddhnjjeomfjaa.Ve Go.Proofs.Ytjddhnjjeomfjaa.We Go.Proofs.Ytjddhnjjeomfjaa.Nr Dg Fp
theorem limb_mul {x m : Nat} (hx : IsN Ieee.double x false (V m 0)) (hm : m ≤ 16777216) : ∃ r, Ieee.double.mul x 4715268809856909312 = some r ∧ IsN Ieee.double r false (V (m * 16777216) 0) := by
  obtain ⟨r, h1, h2⟩ := mul_isN (f := Ieee.double) (m := m * 16777216) (e := 0) (by decide) hx c24 ⟨by rw [bi64]; omega, by rw [lp64]; decide, by rw [top64]; decide⟩ (by rw [V_mul (by decide) (by decide) (by decide)]; rfl)
  exact ⟨r, h1, by simpa using h2⟩
theorem limb_add {x y m n : Nat} (hx : IsN Ieee.double x false (V m 0)) (hy : IsN Ieee.double y false (V n 0)) (hm : m + n < 9007199254740992) : ∃ r, Ieee.double.add x y = some r ∧ IsN Ieee.double r false (V (m + n) 0) := by
  have hv : sv false (V m 0) + sv false (V n 0) = ((V (m + n) 0 : Nat) : Int) := by
    rw [V_U, V_U, V_U, Nat.add_mul]
    simp only [sv]
    push_cast
    rfl
  obtain ⟨r, h1, h2⟩ := add_isN (f := Ieee.double) (m := m + n) (e := 0) hK64 hx hy ⟨by rw [bi64]; omega, by rw [lp64]; decide, by rw [top64]; decide⟩ (by rw [hv]; rfl)
  refine ⟨r, h1, ?_⟩
  rw [hv] at h2
  rw [decide_eq_false (by omega)] at h2
  simpa using h2
theorem limb_step (t k : Nat) : t / 16777216 ^ (k + 1) * 16777216 + t / 16777216 ^ k % 16777216 = t / 16777216 ^ k := by
  rw [Nat.pow_succ, ← Nat.div_div_eq_div_mul]
  have := Nat.div_add_mod (t / 16777216 ^ k) 16777216
  omega
theorem limbs_end {t k : Nat} (h : (L t).length ≤ k) : t / 16777216 ^ k = 0 := by
  have h1 := (L_len_iff t k).1 h
  have h2 := bl_iff.1 h1
  rw [Nat.pow_mul] at h2
  exact Nat.div_eq_of_lt h2
theorem bl_rt {z e mode : Int} (h0 : z ≠ 0) : (bl z.natAbs : Int) + e ≤ (bl (rt z e mode).1 : Int) + rq (bl z.natAbs) e := by
  unfold rt
  generalize rq (bl z.natAbs) e = Q
  by_cases hA : Q ≤ e
  · rw [if_pos hA]
    show _ ≤ ((bl (z.natAbs * 2 ^ (e - Q).toNat) : Nat) : Int) + Q
    rw [bl_shift (by omega)]; omega
  · rw [if_neg hA]
    have key : ∀ t, z.natAbs / 2 ^ (Q - e).toNat ≤ t → (bl z.natAbs : Int) + e ≤ (bl t : Int) + Q := fun t ht => by
      have h1 : z.natAbs / 2 ^ (Q - e).toNat < 2 ^ bl t := Nat.lt_of_le_of_lt ht (bl_iff.1 (Nat.le_refl _))
      have h2 := (Nat.div_lt_iff_lt_mul (Nat.two_pow_pos _)).1 h1
      rw [← Nat.pow_add] at h2
      have := bl_iff.2 h2
      omega
    split
    · exact key _ (Nat.le_refl _)
    · exact key _ (Nat.le_add_right _ _)
theorem zero64 : IsN Ieee.double 0 false (V 0 0) := by
  have h0 := isN_word (f := Ieee.double) (m := 0) (e := -1074) false ⟨by rw [bi64]; decide, by rw [lp64]; decide, .inl (by rw [lp64])⟩ (by decide)
  rw [V_zero] at h0 ⊢
  exact h0
theorem stay2 {w W0 W2 : World} {A A1 : Option Addr} {n c m d1 g : Nat} {s e s1 : Int} {l : List Int} (hb0 : Below w.heap.size w W0) (hx0 : W0.heap[w.heap.size]? = some (.cells #[.int .i64 s, .slice A n c, .int .i64 e] 33 (0, 0))) (hb2 : Below W0.heap.size W0 W2)
    (hx2 : W2.heap[g]? = some (.cells #[.int .i64 s1, .slice A1 m d1] 31 (0, 0))) (hC : (Kd.int .i64).C W2 A1 l.length l) : ∀ W, Below W2.heap.size W2 W →
    (W.cell? ⟨w.heap.size, 0, none⟩ = some (.int .i64 s) ∧ W.cell? ⟨w.heap.size, 1, none⟩ = some (.slice A n c) ∧ W.cell? ⟨w.heap.size, 2, none⟩ = some (.int .i64 e)) ∧ (W.cell? ⟨g, 0, none⟩ = some (.int .i64 s1) ∧ W.cell? ⟨g, 1, none⟩ = some (.slice A1 m d1)) ∧ (Kd.int .i64).C W A1 l.length l ∧ Below W0.heap.size W0 W ∧ Below w.heap.size w W := fun W hb => by
  have h2 := below_then hb2 hb
  obtain ⟨c0, c1, c2, _⟩ := cellsD ((h2.block _ (blk_lt hx0)).trans hx0)
  obtain ⟨d0, d1, _⟩ := cellsN ((hb.block _ (blk_lt hx2)).trans hx2)
  exact ⟨⟨c0, c1, c2⟩, ⟨d0, d1⟩, C_at hC hb, h2, below_then hb0 h2⟩
set_option maxRecDepth 20000 in
set_option maxHeartbeats 1600000 in
theorem sround {w : World} {A : Option Addr} {c : Nat} {z e mode : Int} (h0 : z ≠ 0) (ho : z.natAbs % 2 = 1) (hb : bl z.natAbs ≤ 100000) (h1 : -100000 ≤ e) (h2 : e ≤ 100000) (h3 : 0 ≤ mode) (h4 : mode ≤ 4)
    (hC : (Kd.int .i64).C w A (L z.natAbs).length (L z.natAbs)) (hc : (L z.natAbs).length ≤ c) :
    Calls Try.prog 30 #[.agg #[.int .i64 (sgn z), .slice A (L z.natAbs).length c, .int .i64 e], .int .i64 mode] w fun en w' => en = .returned (.tuple #[.float .f32 (rnd z e mode).1, .int .i64 (rnd z e mode).2]) ∧ Below w.heap.size w w' := by
  obtain ⟨W0, hW0⟩ : ∃ W0, W0 = w.alloc (.cells #[.int .i64 (sgn z), .slice A (L z.natAbs).length c, .int .i64 e] 33) := ⟨_, rfl⟩
  obtain ⟨hb0, hx0, hs0⟩ := boxes1 w (.cells #[.int .i64 (sgn z), .slice A (L z.natAbs).length c, .int .i64 e] 33) W0 (by rw [hW0]; exact Below.refl _ _)
  obtain ⟨K1, hK1⟩ := (Sl.smult h0 ho hb h1 h2 h3 h4).rounds
  obtain ⟨K2, hK2⟩ := (slength (sgn z) z.natAbs (by omega)).rounds
  have htl := rt_le z e mode
  have hQ0 := (rq_bd (bl z.natAbs) e).1
  have hQu : rq (bl z.natAbs) e ≤ 300000 := by unfold rq; split <;> omega
  have hbt : bl (rt z e mode).1 ≤ 25 := bl_le (by omega)
  obtain ⟨K3, hK3⟩ := (slength (sgn ((rt z e mode).1 : Int)) (rt z e mode).1 (by omega)).rounds
  have HM := Lib.hid (fun (W : World) (hb : Below W0.heap.size W0 W) => spec_l03Multiple.calls K1 (sgn z) A c (L z.natAbs) e mode _ _ _ _ W (C_at (C_at hC hb0) hb) hc hK1)
  have HLD := Lib.hid (fun (W : World) (hb : Below W0.heap.size W0 W) => spec_l02Length.calls K2 (sgn z) A c (L z.natAbs) _ W (C_at (C_at hC hb0) hb) hc hK2)
  have HLM := Lib.hid (fun (W : World) (B : Option Addr) (d : Nat) (hB : (Kd.int .i64).C W B (L (rt z e mode).1).length (L (rt z e mode).1)) (hd : (L (rt z e mode).1).length ≤ d) => spec_l02Length.calls K3 (sgn ((rt z e mode).1 : Int)) B d (L (rt z e mode).1) _ W hB hd hK3)
  have hfl : (rt z e mode).2 = if rq (bl z.natAbs) e ≤ e then 0 else if (bl z.natAbs : Int) + e ≤ -126 then 3 else 1 := by
    unfold rt
    by_cases hA : rq (bl z.natAbs) e ≤ e
    · rw [if_pos hA, if_pos hA]
    · rw [if_neg hA, if_neg hA, if_neg (odd_mod ho (by omega))]
  have HFL := Lib.hid hfl
  have hsg : (z < 0 ∧ sgn z = -1) ∨ (¬ z < 0 ∧ sgn z = 1) := by have := sgn_cases z; omega
  have HR1 := Lib.hid (show 128 < (bl z.natAbs : Int) + e → rnd z e mode = (ovr (sgn z) mode, 5) from fun h => by unfold rnd; rw [if_neg h0, if_pos h])
  have HR2 := Lib.hid (show ¬ 128 < (bl z.natAbs : Int) + e → 128 < (bl (rt z e mode).1 : Int) + rq (bl z.natAbs) e → rnd z e mode = (ovr (sgn z) mode, 5) from fun h h' => by unfold rnd; rw [if_neg h0, if_neg h, if_pos h'])
  have HR3 := Lib.hid (show ¬ 128 < (bl z.natAbs : Int) + e → ¬ 128 < (bl (rt z e mode).1 : Int) + rq (bl z.natAbs) e → rnd z e mode = (Ieee.single.nearest (decide (z < 0)) (rt z e mode).1 (rq (bl z.natAbs) e), (rt z e mode).2) from fun h h' => by unfold rnd; rw [if_neg h0, if_neg h, if_neg h'])
  have HB0 := Lib.hid hb0
  have HX0 := Lib.hid hx0
  have HW := Lib.hid hW0
  obtain ⟨c0, c1, c2, _, _, _, l0⟩ := cellsD hx0
  clear hb0 hx0 hW0 hC hc hK1 hK2 hK3 hfl
  generalize (L z.natAbs).length = n at *
  go_enter Try.func30, Try.ntmps30
  go_upto_region 1 with fail
  rw [← HW.out]
  clear HW
  go_wp2_with fail
  refine (HM.out W0 (Below.refl _ _)).mono ?_
  rintro en w1 ⟨u, rfl, hR, hb1⟩
  obtain ⟨A1, d1, rfl⟩ := Kd.R_slice hR
  have HRR := Lib.hid (Kd.R_reads' hR)
  have HB1 := Lib.hid hb1
  clear hb1 hR
  have hle := bl_rt (z := z) (e := e) (mode := mode) h0
  have HOV := Lib.hid (show 128 < (bl (rt z e mode).1 : Int) + rq (bl z.natAbs) e → rnd z e mode = (ovr (sgn z) mode, 5) from fun h => if h' : 128 < (bl z.natAbs : Int) + e then HR1.out h' else HR2.out (by omega) h)
  have HNV := Lib.hid (show (bl (rt z e mode).1 : Int) + rq (bl z.natAbs) e ≤ 128 → rnd z e mode = (Ieee.single.nearest (decide (z < 0)) (rt z e mode).1 (rq (bl z.natAbs) e), (rt z e mode).2) from fun h => HR3.out (by omega) (by omega))
  have hQ1 : (bl (rt z e mode).1 : Int) + rq (bl z.natAbs) e ≤ 128 → rq (bl z.natAbs) e ≤ 104 := fun h => rq_le (by omega)
  have HQ1 := Lib.hid hQ1
  clear HR1 HR2 HR3 hQ1 hle
  generalize (rt z e mode).1 = t at *
  generalize (rt z e mode).2 = F at *
  generalize rq (bl z.natAbs) e = Q at *
  generalize hex : decide (Q ≤ e) = ex at *
  have HEX := Lib.hid hex
  clear hex
  have hlen : (L t).length ≤ 2 := by rw [L_len_iff]; omega
  have hx2 := newAt w1 (.cells #[.int .i64 (sgn (t : Int)), .slice A1 (L t).length d1] 31)
  have hb2 := below_then HB1.out (Ma.below_alloc w1 (.cells #[.int .i64 (sgn (t : Int)), .slice A1 (L t).length d1] 31))
  have hC2 := C_at HRR.out.2.2 (Ma.below_alloc w1 (.cells #[.int .i64 (sgn (t : Int)), .slice A1 (L t).length d1] 31))
  have hbt3 := limbs_end (t := t) (Nat.le_refl _)
  have HLE := Lib.hid hbt3
  clear hbt3
  go_upto_region 4 with fail
  generalize w1.alloc (.cells #[.int .i64 (sgn (t : Int)), .slice A1 (L t).length d1] 31) = W2 at hx2 hb2 hC2 ⊢
  have stay := Lib.hid (stay2 HB0.out HX0.out hb2 hx2 hC2)
  have HLM2 := Lib.hid (HLM.out W2 A1 d1 hC2 HRR.out.2.1)
  clear hx2 hb2 hC2 HLM c0 c1 c2
  generalize w1.heap.size = g at *
  obtain ⟨⟨c0, c1, c2⟩, ⟨e0, e1⟩, -⟩ := stay.out W2 (Below.refl _ _)
  go_wp2_with fail
  refine HLM2.out.mono ?_
  rintro en w3 ⟨rfl, hb⟩
  have HB3 := Lib.hid hb
  clear hb c0 c1 c2 e0 e1
  obtain ⟨⟨c0, c1, c2⟩, ⟨e0, e1⟩, hC3, -, hbw3⟩ := stay.out w3 HB3.out
  have HBW3 := Lib.hid hbw3
  have HC3 := Lib.hid hC3
  clear hC3 hbw3
  by_cases hov : 128 < (bl t : Int) + Q
  · have HR := Lib.hid (HOV.out hov)
    have HO := Lib.hid (fun (W : World) => sOver (w := W) (mode := mode) (s := sgn z) (by omega) ⟨h3, h4⟩)
    clear HOV HNV
    go_wp2_with fail
    refine (HO.out _).mono ?_
    rintro en w4 ⟨rfl, rfl⟩
    go_wp2
    go_ret2
    exact ⟨by rw [HR.out]; rfl, HBW3.out⟩
  · have HR := Lib.hid (HNV.out (by omega))
    have hq1 := HQ1.out (by omega)
    have HCV := Lib.hid (fun (r : Nat) (h : IsN Ieee.double r false (V t Q)) (W : World) => convT h htl hQ0 (by omega) hq1 W)
    have HTW := Lib.hid (fun (b : Nat) (h : IsN Ieee.double b false (V t 0)) (W : World) => l01Twos b Q false t 0 h (by omega) (by decide) (by decide) (by omega) (by omega) W)
    have HTN := Lib.hid (fun (W : World) => l01Turned (Ieee.single.nearest false t Q) (near_lt false htl hQ0 (by omega) hq1).1 (near_lt false htl hQ0 (by omega) hq1).2 W)
    have HOP := Lib.hid (opp_near htl hQ0 (show (bl t : Int) + Q ≤ 128 by omega) hq1)
    clear HOV HNV
    have hcell : ∀ k, k < (L t).length → ∃ ad, A1 = some ad ∧ w3.cell? (ad.add k) = some (.int .i64 ((t / 16777216 ^ k % 16777216 : Nat) : Int)) := fun k hk => by
      obtain ⟨ad, hA, hc⟩ := Kd.at_int HC3.out (k : Int) (by omega) (by omega)
      rw [Int.toNat_natCast, rdN, L_getD] at hc
      exact ⟨ad, hA, hc⟩
    have HCL := Lib.hid hcell
    clear hcell
    generalize hm : (L t).length = m at *
    clear hm
    go_wp2_with fail
    go_loop [9, 10] (fun u i => ∃ k b : Nat, k ≤ m ∧ i = .int .i64 ((k : Int) - 1) ∧ u = .float .f64 b ∧ Hid (IsN Ieee.double b false (V (t / 16777216 ^ k) 0))) (fun _ i => (intOf i + 1).toNat)
    case atStart => exact ⟨m, 0, Nat.le_refl _, rfl, rfl, Lib.hid (by rw [HLE.out]; exact zero64)⟩
    case round =>
      obtain ⟨k, b, hk, rfl, rfl, HN⟩ := hrel
      cases k with
      | zero =>
        have e' : ((0 : Nat) : Int) - 1 = -1 := rfl
        rw [e']
        have hN := HN.out
        rw [Nat.pow_zero, Nat.div_one] at hN
        have HT := Lib.hid (HTW.out b hN)
        clear hN HN e'
        go_wp2_with fail
        refine (HT.out _).mono ?_
        rintro en w4 ⟨⟨r, rfl, hr⟩, rfl⟩
        rw [Int.zero_add] at hr
        have hcv := HCV.out r hr
        clear hr
        go_upto_if 56 with fail
        go_cut [12] (fun v12 wx => v12 = .int .i64 F ∧ Hid (Below W2.heap.size W2 wx))
        case first =>
          cases ex with
          | true =>
            go_wp2_with fail
            go_meet
            exact ⟨by rw [HFL.out, if_pos (of_decide_eq_true HEX.out)], HB3⟩
          | false =>
            have hA := of_decide_eq_false HEX.out
            have hF : F = if (bl z.natAbs : Int) + e ≤ -126 then 3 else 1 := by rw [HFL.out, if_neg hA]
            have HF := Lib.hid hF
            have HB03 := Lib.hid ((stay.out w3 HB3.out).2.2.2.1)
            clear hF hA
            by_cases ht : (bl z.natAbs : Int) + e ≤ -126
            · have hF := HF.out
              rw [if_pos ht] at hF
              have HF3 := Lib.hid hF
              clear hF
              go_upto_region 14 with fail
              go_region_held3 (fun w' => w'.cell? ⟨w.heap.size, 0, none⟩ = some (.int .i64 (sgn z)) ∧ w'.cell? ⟨w.heap.size, 1, none⟩ = some (.slice A n c) ∧ w'.cell? ⟨w.heap.size, 2, none⟩ = some (.int .i64 e)) (go_keep)
                (first | (go_at_call 57; refine (HLD.out _ (by first | exact HB03.out | exact HB03.out.drew)).mono ?_; rintro en w5 ⟨rfl, hb'⟩; have hb5 := below_then (show Below W2.heap.size W2 _ by first | exact HB3.out | exact HB3.out.drew) hb'; obtain ⟨⟨a0, a1, a2⟩, -⟩ := stay.out _ hb5; have HB5 := Lib.hid hb5; clear hb5 hb'))
              all_goals go_wp2_with fail
              all_goals go_meet
              all_goals first | (rw [HF3.out]; exact ⟨rfl, HB5⟩) | (exfalso; have hw : IntKind.i64.wrap ((bl z.natAbs : Int) + e) = (bl z.natAbs : Int) + e := Ss.i64_id (by omega) (by omega); simp only [hw] at *; omega)
            · have hF := HF.out
              rw [if_neg ht] at hF
              have HF3 := Lib.hid hF
              clear hF
              go_upto_region 14 with fail
              go_region_held3 (fun w' => w'.cell? ⟨w.heap.size, 0, none⟩ = some (.int .i64 (sgn z)) ∧ w'.cell? ⟨w.heap.size, 1, none⟩ = some (.slice A n c) ∧ w'.cell? ⟨w.heap.size, 2, none⟩ = some (.int .i64 e)) (go_keep)
                (first | (go_at_call 57; refine (HLD.out _ (by first | exact HB03.out | exact HB03.out.drew)).mono ?_; rintro en w5 ⟨rfl, hb'⟩; have hb5 := below_then (show Below W2.heap.size W2 _ by first | exact HB3.out | exact HB3.out.drew) hb'; obtain ⟨⟨a0, a1, a2⟩, -⟩ := stay.out _ hb5; have HB5 := Lib.hid hb5; clear hb5 hb'))
              all_goals go_wp2_with fail
              all_goals go_meet
              all_goals first | (rw [HF3.out]; exact ⟨rfl, HB5⟩) | (exfalso; have hw : IntKind.i64.wrap ((bl z.natAbs : Int) + e) = (bl z.natAbs : Int) + e := Ss.i64_id (by omega) (by omega); simp only [hw] at *; omega)
        case rest =>
          obtain ⟨rfl, HB4⟩ := hcut
          clear c0 c1 c2 e0 e1
          obtain ⟨⟨c0, c1, c2⟩, ⟨e0, e1⟩, -, -, hbw4⟩ := stay.out wc HB4.out
          have HBW4 := Lib.hid hbw4
          clear hbw4 e0 e1
          rcases hsg with ⟨hz, hs⟩ | ⟨hz, hs⟩
          · rw [hs] at c0
            have HR' := Lib.hid (show rnd z e mode = (Ieee.single.nearest true t Q, F) by rw [HR.out, decide_eq_true hz])
            clear hz hs
            go_wp2_with fail
            refine (HTN.out _).mono ?_
            rintro en w6 ⟨rfl, rfl⟩
            go_wp2
            go_ret2
            exact ⟨by rw [HR'.out, ← HOP.out]; rfl, HBW4.out⟩
          · rw [hs] at c0
            have HR' := Lib.hid (show rnd z e mode = (Ieee.single.nearest false t Q, F) by rw [HR.out, decide_eq_false (by omega)])
            clear hz hs
            go_wp2
            go_ret2
            exact ⟨by rw [HR'.out]; rfl, HBW4.out⟩
      | succ k =>
        have e' : ((k + 1 : Nat) : Int) - 1 = (k : Int) := by omega
        rw [e']
        clear e'
        obtain ⟨ad, hA, hc⟩ := HCL.out k (by omega)
        subst hA
        obtain ⟨r1, hr1, hn1⟩ := limb_mul HN.out (Nat.le_trans (Nat.div_le_self _ _) htl)
        have hi := ofInt64 ((t / 16777216 ^ k % 16777216 : Nat) : Int) (by omega) (by omega)
        rw [Int.natAbs_natCast, decide_eq_false (by omega)] at hi
        obtain ⟨r2, hr2, hn2⟩ := limb_add hn1 hi (by rw [limb_step]; have := Nat.div_le_self t (16777216 ^ k); omega)
        rw [limb_step] at hn2
        have HN2 := Lib.hid hn2
        have hrun1 := run_float_arith (P := Try.prog) w3 .mul 36 .f64 b 4715268809856909312 r1 hr1
        have hrun2 := run_float_arith (P := Try.prog) w3 .add 36 .f64 r1 _ r2 hr2
        clear hr1 hn1 hi hr2 hn2
        generalize t / 16777216 ^ k % 16777216 = d at *
        go_wp2
        go_round
        case rel => exact ⟨k, r2, by omega, rfl, rfl, HN2⟩
        case measure => (simp [intOf]) <;> omega
end Go.Proofs.Ytjddhnjjeomfjaa.Sr
end
section
set_option linter.unusedVariables false
set_option linter.unusedSimpArgs false
namespace Go.Proofs.Ytjddhnjjeomfjaa.Ng
open Go.RowKit Go.Proofs.YtjddhnjjeomfjaaW.PrintWords Go.Proofs.Ytjddhnjjeomfjaa.PW Go.Proofs.Ytjddhnjjeomfjaa.Pc Go.Proofs.Ytjddhnjjeomfjaa.Pb Go.Proofs.Ytjddhnjjeomfjaa.Pw Go.Proofs.Ytjddhnjjeomfjaa.Ma Go.Proofs.Ytjddhnjjeomfjaa.Mh Go.Proofs.Ytjddhnjjeomfjaa.Mu Go.Proofs.Ytjddhnjjeomfjaa.Na Go.Proofs.Ytjddhnjjeomfjaa.Nd Go.Proofs.Ytjddhnjjeomfjaa.Qa Dg
def Two (w W : World) (s e : Int) (A : Option Addr) (n c : Nat) : Prop :=
  (W.cell? ⟨w.heap.size, 0, none⟩ = some (.int .i64 s) ∧ W.cell? ⟨w.heap.size, 1, none⟩ = some (.slice A n c) ∧ W.cell? ⟨w.heap.size, 2, none⟩ = some (.int .i64 e)) ∧
  (W.cell? ⟨w.heap.size + 1, 0, none⟩ = some (.int .i64 0) ∧ W.cell? ⟨w.heap.size + 1, 1, none⟩ = some (.slice none 0 0) ∧ W.cell? ⟨w.heap.size + 1, 2, none⟩ = some (.int .i64 0) ∧ W.frozen? ⟨w.heap.size + 1, 0, none⟩ = false ∧ W.frozen? ⟨w.heap.size + 1, 1, none⟩ = false ∧ W.frozen? ⟨w.heap.size + 1, 2, none⟩ = false) ∧
  (w.heap.size < W.heap.size ∧ w.heap.size + 1 < W.heap.size) ∧ W.heap[w.heap.size + 1]? = some (.cells #[.int .i64 0, .slice none 0 0, .int .i64 0] 33 (0, 0)) ∧ Below w.heap.size w W
theorem two (w : World) (s e : Int) (A : Option Addr) (n c : Nat) {W0 : World} (hW0 : W0 = (w.alloc (.cells #[.int .i64 s, .slice A n c, .int .i64 e] 33)).alloc (.cells #[.int .i64 0, .slice none 0 0, .int .i64 0] 33)) :
    Below w.heap.size w W0 ∧ ∀ W, Below W0.heap.size W0 W → Two w W s e A n c := by
  obtain ⟨hb0, hx0, hx1, hs0⟩ := boxes2 w (.cells #[.int .i64 s, .slice A n c, .int .i64 e] 33) (.cells #[.int .i64 0, .slice none 0 0, .int .i64 0] 33) W0 (by rw [hW0]; exact Below.refl _ _)
  refine ⟨hb0, fun W hb => ?_⟩
  have hy0 := (hb.block _ (by omega)).trans hx0
  have hy1 := (hb.block _ (by omega)).trans hx1
  obtain ⟨a0, a1, a2, a3, a4, a5, a6⟩ := cellsD hy0
  obtain ⟨b0, b1, b2, b3, b4, b5, b6⟩ := cellsD hy1
  exact ⟨⟨a0, a1, a2⟩, ⟨b0, b1, b2, b3, b4, b5⟩, ⟨a6, b6⟩, hy1, hb0.trans (hb.mono (Nat.le_trans (by omega) hs0))⟩
end Go.Proofs.Ytjddhnjjeomfjaa.Ng
end
section
set_option linter.unusedVariables false
set_option linter.unusedSimpArgs false
namespace Go.Proofs.Ytjddhnjjeomfjaa.Vr
open Go.RowKit Go.Proofs.YtjddhnjjeomfjaaW.PrintWords Go.Proofs.YtjddhnjjeomfjaaW.PrintMore Go.Proofs.Ytjddhnjjeomfjaa.PW Go.Proofs.Ytjddhnjjeomfjaa.Pb Go.Proofs.Ytjddhnjjeomfjaa.Pc Go.Proofs.Ytjddhnjjeomfjaa.Pm Go.Proofs.Ytjddhnjjeomfjaa.Pw Go.Proofs.Ytjddhnjjeomfjaa.Ma Go.Proofs.Ytjddhnjjeomfjaa.Mh Go.Proofs.Ytjddhnjjeomfjaa.Mu Go.Proofs.Ytjddhnjjeomfjaa.Na Go.Proofs.Ytjddhnjjeomfjaa.Nd Go.Proofs.Ytjddhnjjeomfjaa.Ng Go.Proofs.Ytjddhnjjeomfjaa.Nr Go.Proofs.Ytjddhnjjeomfjaa.Qa Go.Proofs.Ytjddhnjjeomfjaa.Re Go.Proofs.Ytjddhnjjeomfjaa.Rf Go.Proofs.Ytjddhnjjeomfjaa.Sr Dg Fp
theorem rnd_zero (e mode : Int) : rnd 0 e mode = (0, 0) := by unfold rnd; rw [if_pos rfl]
theorem nroundA {w : World} {q : Nat} {z e mode : Int} (hz : Z w q z) (h1 : bl z.natAbs ≤ 1000000) (h2 : -1000000 ≤ e) (h3 : e ≤ 1000000) (h4 : 0 ≤ mode) (h5 : mode ≤ 4) :
    Calls Try.prog 35 #[.agg #[.pointer (some ⟨q, 0, none⟩), .int .i64 e], .int .i64 mode] w fun en w' => en = .returned (.tuple #[.float .f32 (rnd z e mode).1, .int .i64 (rnd z e mode).2]) ∧ Below w.heap.size w w' := by
  by_cases h0 : z = 0
  · subst h0
    rw [rnd_zero]
    exact nround0 hz
  · exact nround hz h0 h1 h2 h3 h4 h5
theorem cMode {w : World} (mode : Int) : Calls Try.prog 33 #[.int .i64 mode] w fun en w' => en = .returned (.bool (decide (0 ≤ mode ∧ mode ≤ 4))) ∧ Below w.heap.size w w' := by
  refine (impl_isMode.calls mode (decide (0 ≤ mode ∧ mode ≤ 4)) w ?_).mono fun en w' h => ⟨h.1, h.2.below⟩
  unfold impl_isMode.f
  by_cases h : mode ≥ 0
  · rw [if_pos h]
    congr 1
    rw [Bool.eq_iff_iff, decide_eq_true_iff, decide_eq_true_iff]
    omega
  · rw [if_neg h, decide_eq_false (by omega)]
theorem smode (mode : Int) : spec_l03Mode.f mode = some (decide (0 ≤ mode ∧ mode ≤ 4)) := by
  unfold spec_l03Mode.f
  by_cases h : 0 ≤ mode ∧ mode ≤ 4
  · rw [in_true h.1 h.2, decide_eq_true h]; rfl
  · rw [in_false (by omega), decide_eq_false h]; rfl
end Go.Proofs.Ytjddhnjjeomfjaa.Vr
end
section
set_option linter.unusedVariables false
set_option linter.unusedSimpArgs false
namespace Go.Proofs.Ytjddhnjjeomfjaa.Ae
open Go.RowKit Go.Proofs.YtjddhnjjeomfjaaW.PrintWords Go.Proofs.YtjddhnjjeomfjaaW.PrintMore Go.Proofs.Ytjddhnjjeomfjaa.PW Go.Proofs.Ytjddhnjjeomfjaa.Pb Go.Proofs.Ytjddhnjjeomfjaa.Pc Go.Proofs.Ytjddhnjjeomfjaa.Pm Go.Proofs.Ytjddhnjjeomfjaa.Pw Go.Proofs.Ytjddhnjjeomfjaa.Ma Go.Proofs.Ytjddhnjjeomfjaa.Mh Go.Proofs.Ytjddhnjjeomfjaa.Mu Go.Proofs.Ytjddhnjjeomfjaa.Na Go.Proofs.Ytjddhnjjeomfjaa.Nc Go.Proofs.Ytjddhnjjeomfjaa.Nr Go.Proofs.Ytjddhnjjeomfjaa.Va Go.Proofs.Ytjddhnjjeomfjaa.Vr Go.Proofs.Ytjddhnjjeomfjaa.Re Go.Proofs.Ytjddhnjjeomfjaa.Rf Go.Proofs.Ytjddhnjjeomfjaa.Ad Dg Fp
def z0 (b : Bool) : Nat := if b = true then 2147483648 else 0
theorem minusZero {w : World} : Calls Try.prog 94 #[] w fun en w' => en = .returned (.float .f32 2147483648) ∧ w = w' := by
  go_enter Try.func94, Try.ntmps94
  go_wp2
  go_ret
  exact ⟨rfl, rfl⟩
end Go.Proofs.Ytjddhnjjeomfjaa.Ae
end
section
namespace Go.Proofs.Ytjddhnjjeomfjaa.Vb
end Go.Proofs.Ytjddhnjjeomfjaa.Vb
end
section
set_option linter.unusedVariables false
set_option linter.unusedSimpArgs false
namespace Go.Proofs.Ytjddhnjjeomfjaa.Af
open Go.RowKit Go.Proofs.Ytjddhnjjeomfjaa.Ma Go.Proofs.YtjddhnjjeomfjaaW.PrintWords Go.Proofs.YtjddhnjjeomfjaaW.PrintLast Go.Proofs.YtjddhnjjeomfjaaW.PrintMore Go.Proofs.Ytjddhnjjeomfjaa.PW Go.Proofs.Ytjddhnjjeomfjaa.Pb Go.Proofs.Ytjddhnjjeomfjaa.Pc Go.Proofs.Ytjddhnjjeomfjaa.Pm Go.Proofs.Ytjddhnjjeomfjaa.Pw Go.Proofs.Ytjddhnjjeomfjaa.Mh Go.Proofs.Ytjddhnjjeomfjaa.Mu Go.Proofs.Ytjddhnjjeomfjaa.Na Go.Proofs.Ytjddhnjjeomfjaa.Nc Go.Proofs.Ytjddhnjjeomfjaa.Nd Go.Proofs.Ytjddhnjjeomfjaa.Ln Go.Proofs.Ytjddhnjjeomfjaa.Nr Go.Proofs.Ytjddhnjjeomfjaa.Qa Go.Proofs.Ytjddhnjjeomfjaa.Sr Go.Proofs.Ytjddhnjjeomfjaa.Va Go.Proofs.Ytjddhnjjeomfjaa.Vb Go.Proofs.Ytjddhnjjeomfjaa.Vr Go.Proofs.Ytjddhnjjeomfjaa.Re Go.Proofs.Ytjddhnjjeomfjaa.Rf Go.Proofs.Ytjddhnjjeomfjaa.Ad Go.Proofs.Ytjddhnjjeomfjaa.Ae Go.Proofs.Ytjddhnjjeomfjaa.Wd Go.Proofs.Ytjddhnjjeomfjaa.We Dg Fp
open Go.Proofs.Ytjddhnjjeomfjaa.Wc (ret_bool)
theorem opp0 : opp 0 = 2147483648 := by decide
theorem sZero {w : World} (b : Bool) : Calls Try.prog 46 #[.bool b] w fun en w' => en = .returned (.float .f32 (z0 b)) ∧ w = w' := by
  have ht := l01Turned 0 (by decide) nan0 w
  rw [opp0] at ht
  have HT := Lib.hid ht
  clear ht
  cases b
  all_goals
    go_enter Try.func46, Try.ntmps46
    go_wp2_with (first | (go_at_call 42; refine HT.out.mono ?_; rintro en w1 ⟨rfl, rfl⟩))
    go_ret
    exact ⟨rfl, rfl⟩
theorem cSMode {w : World} (mode : Int) : Calls Try.prog 45 #[.int .i64 mode] w fun en w' => en = .returned (.bool (decide (0 ≤ mode ∧ mode ≤ 4))) ∧ Below w.heap.size w w' :=
  (spec_l03Mode.calls mode _ w (smode mode)).mono fun en w' h => ⟨h.1, h.2.below⟩
theorem sroundY {w : World} {A : Option Addr} {c : Nat} {z e mode : Int} {r1 : Int} {r2 : List Int} {r3 : Int} (hd : dy z e = (r1, r2, r3)) (h0 : z ≠ 0) (hb : bl z.natAbs ≤ 90000) (h1 : -90000 ≤ e) (h2 : e ≤ 9000) (h3 : 0 ≤ mode) (h4 : mode ≤ 4) (hC : (Kd.int .i64).C w A r2.length r2) (hc : r2.length ≤ c) :
    Calls Try.prog 30 #[.agg #[.int .i64 r1, .slice A r2.length c, .int .i64 r3], .int .i64 mode] w fun en w' => en = .returned (.tuple #[.float .f32 (rnd z e mode).1, .int .i64 (rnd z e mode).2]) ∧ Below w.heap.size w w' := by
  obtain ⟨z', e', ho⟩ := od z e
  obtain ⟨hz', hodd, k, hk, he', hkb⟩ := ho.pos h0
  have hbl := ho.bl
  rw [od_rnd ho mode]
  rw [ho.dy] at hd
  obtain ⟨rfl, hd2⟩ := Prod.mk.inj hd
  obtain ⟨rfl, rfl⟩ := Prod.mk.inj hd2
  exact sround hz' hodd (by omega) (by omega) (by omega) h3 h4 hC hc
theorem z0_ok (b : Bool) : z0 b < 4294967296 ∧ nan Ieee.single (z0 b) = false := by cases b <;> exact ⟨by decide, by decide⟩
end Go.Proofs.Ytjddhnjjeomfjaa.Af
end
section
set_option linter.unusedVariables false
set_option linter.unusedSimpArgs false
namespace Go.Proofs.Ytjddhnjjeomfjaa.Ah
open Go.RowKit Go.Proofs.Ytjddhnjjeomfjaa.Ma Go.Proofs.YtjddhnjjeomfjaaW.PrintWords Go.Proofs.YtjddhnjjeomfjaaW.PrintLast Go.Proofs.YtjddhnjjeomfjaaW.PrintMore Go.Proofs.Ytjddhnjjeomfjaa.PW Go.Proofs.Ytjddhnjjeomfjaa.Pb Go.Proofs.Ytjddhnjjeomfjaa.Pc Go.Proofs.Ytjddhnjjeomfjaa.Pm Go.Proofs.Ytjddhnjjeomfjaa.Pw Go.Proofs.Ytjddhnjjeomfjaa.Mh Go.Proofs.Ytjddhnjjeomfjaa.Mu Go.Proofs.Ytjddhnjjeomfjaa.Na Go.Proofs.Ytjddhnjjeomfjaa.Nc Go.Proofs.Ytjddhnjjeomfjaa.Nd Go.Proofs.Ytjddhnjjeomfjaa.Ln Go.Proofs.Ytjddhnjjeomfjaa.Nr Go.Proofs.Ytjddhnjjeomfjaa.Qa Go.Proofs.Ytjddhnjjeomfjaa.Sr Go.Proofs.Ytjddhnjjeomfjaa.Va Go.Proofs.Ytjddhnjjeomfjaa.Vb Go.Proofs.Ytjddhnjjeomfjaa.Vr Go.Proofs.Ytjddhnjjeomfjaa.Re Go.Proofs.Ytjddhnjjeomfjaa.Rf Go.Proofs.Ytjddhnjjeomfjaa.Ad Go.Proofs.Ytjddhnjjeomfjaa.Ae Go.Proofs.Ytjddhnjjeomfjaa.Af Go.Proofs.Ytjddhnjjeomfjaa.Wd Go.Proofs.Ytjddhnjjeomfjaa.We Dg Fp
theorem signedZero {w : World} (b : Bool) : Calls Try.prog 50 #[.bool b] w fun en w' => en = .returned (.float .f32 (z0 b)) ∧ w = w' := by
  have HZ := Lib.hid (minusZero (w := w))
  cases b
  all_goals
    go_enter Try.func50, Try.ntmps50
    go_wp2_with (first | (go_at_call 94; refine HZ.out.mono ?_; rintro en w1 ⟨rfl, rfl⟩))
    go_ret
    exact ⟨rfl, rfl⟩
end Go.Proofs.Ytjddhnjjeomfjaa.Ah
end
section
set_option linter.unusedVariables false
set_option linter.unusedSimpArgs false
namespace Go.Proofs.Ytjddhnjjeomfjaa.Ao
open Go.RowKit Go.Proofs.Ytjddhnjjeomfjaa.Ma Go.Proofs.YtjddhnjjeomfjaaW.PrintWords Go.Proofs.Ytjddhnjjeomfjaa.Mh Go.Proofs.Ytjddhnjjeomfjaa.Vr Go.Proofs.Ytjddhnjjeomfjaa.Re Go.Proofs.Ytjddhnjjeomfjaa.Rf Go.Proofs.Ytjddhnjjeomfjaa.Ae Go.Proofs.Ytjddhnjjeomfjaa.Af Go.Proofs.Ytjddhnjjeomfjaa.Ah Go.Proofs.Ytjddhnjjeomfjaa.An Go.Proofs.Ytjddhnjjeomfjaa.Vg Go.Proofs.Ytjddhnjjeomfjaa.Wd Go.Proofs.Ytjddhnjjeomfjaa.We Go.Proofs.Ytjddhnjjeomfjaa.Wh Dg Fp
open Go.Proofs.Ytjddhnjjeomfjaa.Wc (ret_bool)
theorem run_arith_none64 {P : Program} (w : World) (op : BinOp) (hop : op = .add ∨ op = .sub ∨ op = .mul ∨ op = .quo) (t : TypeId) (x y : Nat) (h : floatBits op .f64 x y = none) :
    ∃ r, (binOp op t (.float .f64 x) (.float .f64 y)).run P w = .ok (.float .f64 r) w.drew ∧ r < 18446744073709551616 ∧ nan Ieee.double r = true := by
  refine ⟨(Question.nanBits .f64 x y).cut (w.tape w.drawn (Question.nanBits .f64 x y)), ?_, ?_, ?_⟩
  · unfold floatBits at h
    rcases hop with rfl | rfl | rfl | rfl <;> simp only at h <;> simp [binOp, Op.floatArith, h, Question.forced]
  · generalize w.tape w.drawn (Question.nanBits .f64 x y) = q
    simp only [Question.cut, Nat.reducePow, Nat.reduceSub]
    omega
  · generalize w.tape w.drawn (Question.nanBits .f64 x y) = q
    simp only [Question.cut, Nat.reducePow, Nat.reduceSub]
    unfold nan rg
    rw [sw64, ir64]
    simp only [decide_eq_true_eq]
    have hb : q / 2 % 4503599627370495 < 4503599627370495 := Nat.mod_lt _ (by decide)
    have ha : q % 2 = 0 ∨ q % 2 = 1 := by omega
    generalize q / 2 % 4503599627370495 = b at *
    rcases ha with ha | ha <;> rw [ha] <;> omega
theorem sub64_fin (x : Nat) (hx : x < 18446744073709551616) (h : fin Ieee.double x = true) : floatBits .sub .f64 x x = some 0 := by
  have hx' : x < 2 ^ Ieee.double.width := by rw [wd64]; exact hx
  obtain ⟨m, e, _, _, _, hn⟩ := isN_fin hf64 hx' h
  obtain ⟨r, hr, rfl⟩ := sub_self hn
  exact hr
theorem sub64_not (x : Nat) (hx : x < 18446744073709551616) (h : fin Ieee.double x = false) : floatBits .sub .f64 x x = none := by
  have hx' : x < 2 ^ Ieee.double.width := by rw [wd64]; exact hx
  show Ieee.double.sub x x = none
  unfold Ieee.Format.sub
  cases hn : nan Ieee.double x with
  | true => obtain ⟨s, t, hr⟩ := read_nan hf64 hx' hn; rw [hr]; rfl
  | false =>
    rw [(read_inf hf64 hx' h hn).1]
    cases sg Ieee.double x <;> rfl
def nE (b : Nat) : Nat := b % 9223372036854775808 / 4503599627370496
def nf (b : Nat) : Nat := b % 4503599627370496
def nz (b : Nat) : Int := sv (sg Ieee.double b) (m64 (nE b) (nf b))
def ne (b : Nat) : Int := e64 (nE b)
def naF (b : Nat) (mode : Int) : Nat × Int := if nz b = 0 then (z0 (sg Ieee.double b), 0) else rnd (nz b) (ne b) mode
def naI (b : Nat) (mode : Int) : Nat × Int × Int := if fin Ieee.double b = true then (if 0 ≤ mode ∧ mode ≤ 4 then ((naF b mode).1, (naF b mode).2, 0) else (0, 0, 2)) else (0, 0, 1)
theorem parts64 {b : Nat} (hb : b < 18446744073709551616) (hf : fin Ieee.double b = true) : b = w64 (sg Ieee.double b) (nE b) (nf b) ∧ nE b ≤ 2046 ∧ nf b < 4503599627370496 := by
  unfold fin rg at hf
  rw [sw64, ir64, decide_eq_true_iff] at hf
  unfold nE nf w64 sg
  rw [sw64]
  refine ⟨?_, by omega, by omega⟩
  by_cases h : 9223372036854775808 ≤ b
  · rw [decide_eq_true h, if_pos rfl]; omega
  · rw [decide_eq_false h, if_neg (by decide)]; omega
theorem zero64_iff {b : Nat} (hb : b < 18446744073709551616) (hf : fin Ieee.double b = true) : (FloatKind.f64.format.order b 0 == some .eq) = decide (nz b = 0) := by
  have hn : nan Ieee.double b = false := by unfold fin nan at *; simp at *; omega
  rw [ord64 hb (by decide) hn (nan_small (by decide)), cmp_eq, pl_small (a := 0) (by decide), Bool.eq_iff_iff, decide_eq_true_iff, decide_eq_true_iff]
  unfold pl nz m64 nE nf rg sv
  rw [sw64]
  by_cases h : b % 9223372036854775808 / 4503599627370496 = 0
  · rw [if_pos h]
    split <;> omega
  · rw [if_neg h]
    split <;> omega
theorem naI_cases (b : Nat) (mode : Int) : (fin Ieee.double b = true ∧ (0 ≤ mode ∧ mode ≤ 4) ∧ naI b mode = ((naF b mode).1, (naF b mode).2, 0)) ∨ (fin Ieee.double b = true ∧ ¬ (0 ≤ mode ∧ mode ≤ 4) ∧ naI b mode = (0, 0, 2)) ∨ (fin Ieee.double b = false ∧ naI b mode = (0, 0, 1)) := by
  unfold naI
  cases hf : fin Ieee.double b with
  | true =>
    simp only [if_true]
    by_cases hm : 0 ≤ mode ∧ mode ≤ 4
    · rw [if_pos hm]; exact .inl ⟨trivial, hm, rfl⟩
    · rw [if_neg hm]; exact .inr (.inl ⟨trivial, hm, rfl⟩)
  | false => exact .inr (.inr ⟨rfl, by simp only [Bool.false_eq_true, if_false]⟩)
theorem naI_ok (b : Nat) (mode : Int) : (naI b mode).1 < 4294967296 ∧ nan Ieee.single (naI b mode).1 = false := by
  rcases naI_cases b mode with ⟨_, _, hr⟩ | ⟨_, _, hr⟩ | ⟨_, hr⟩
  · rw [hr]
    show (naF b mode).1 < 4294967296 ∧ nan Ieee.single (naF b mode).1 = false
    unfold naF
    split
    · exact z0_ok _
    · exact rnd_ok _ _ _
  · rw [hr]; exact ⟨by show (0 : Nat) < _; decide, nan0⟩
  · rw [hr]; exact ⟨by show (0 : Nat) < _; decide, nan0⟩
theorem fin_mod {b : Nat} : fin Ieee.double b = decide (b % 9223372036854775808 < 9218868437227405312) := by unfold fin rg; rw [sw64, ir64]
theorem nan_mod2 {b : Nat} : nan Ieee.double b = decide (9218868437227405312 < b % 9223372036854775808) := by unfold nan rg; rw [sw64, ir64]
theorem mLdexpW (s : Bool) {g : Nat} (hg : g < 4503599627370496) (w : World) : Calls Try.prog 54 #[.float .f64 (w64 s 1022 g), .int .i64 53] w fun e w' => e = .returned (.float .f64 (w64 s 1075 g)) ∧ w = w' := by
  have HL := Lib.hid (mldexp s 1022 g 53 (by decide) (by decide) hg (by decide) (by decide) w)
  go_enter Try.func54, Try.ntmps54
  go_wp2_with (first | (go_at_call 100; refine HL.out.mono ?_; rintro e1 w1 ⟨rfl, rfl⟩))
  go_ret
  exact ⟨rfl, rfl⟩
set_option maxRecDepth 20000 in
set_option maxHeartbeats 1600000 in
theorem iNarrow {w : World} {b : Nat} {mode : Int} (hb : b < 18446744073709551616) :
    Calls Try.prog 27 #[.float .f64 b, .int .i64 mode] w fun en w' => en = .returned (.tuple #[.float .f32 (naI b mode).1, .int .i64 (naI b mode).2.1, .int .i64 (naI b mode).2.2]) ∧ Below w.heap.size w w' := by
  have HM0 := fun (W : World) => cMode (w := W) mode
  have hnn := fun (W : World) => mIsNaN b hb W
  rcases naI_cases b mode with ⟨hf, hm, hr⟩ | ⟨hf, hm, hr⟩ | ⟨hf, hr⟩
  · have hn : nan Ieee.double b = false := by unfold fin nan at *; simp at *; omega
    rw [hn] at hnn
    have HN := Lib.hid hnn
    have HI := Lib.hid (fun (W : World) => mIsInf b hb (by rw [fin_mod, decide_eq_true_iff] at hf; exact hf) W)
    rw [decide_eq_true hm] at HM0
    have HM := Lib.hid HM0
    have hz := zero64_iff hb hf
    obtain ⟨hw, hE, hg⟩ := parts64 hb hf
    by_cases h0 : nz b = 0
    · rw [decide_eq_true h0] at hz
      have HR := Lib.hid (show naI b mode = (z0 (sg Ieee.double b), 0, 0) by rw [hr]; unfold naF; rw [if_pos h0])
      have HSB := Lib.hid (fun (W : World) => mSignbit b hb W)
      have HSZ := Lib.hid (fun (W : World) (c : Bool) => Ah.signedZero (w := W) c)
      clear hr hm hf hn hnn HM0 hw hE hg h0
      generalize sg Ieee.double b = s at *
      go_enter Try.func27, Try.ntmps27
      go_wp2_with fail
      refine (HN.out _).mono ?_
      rintro en w1 ⟨rfl, rfl⟩
      go_wp2_with fail
      refine (HI.out _).mono ?_
      rintro en w1 ⟨rfl, rfl⟩
      go_wp2_with fail
      refine (HM.out _).mono ?_
      rintro en w2 ⟨rfl, hb2⟩
      have HB2 := Lib.hid hb2
      clear hb2
      go_wp2_with fail
      refine (HSB.out _).mono ?_
      rintro en w3 ⟨rfl, rfl⟩
      go_wp2_with fail
      refine (HSZ.out _ _).mono ?_
      rintro en w3 ⟨rfl, rfl⟩
      go_wp2
      go_ret3
      exact ⟨by rw [HR.out]; rfl, HB2.out⟩
    · rw [decide_eq_false h0] at hz
      have hm0 : 0 < m64 (nE b) (nf b) := by
        refine Nat.pos_of_ne_zero (fun h => h0 ?_)
        unfold nz; rw [h]; cases sg Ieee.double b <;> rfl
      obtain ⟨d, g, hd, hg2, hmd, hd0, hd1⟩ := norm hm0 (m64_lt hg)
      have HFR0 := fun (W : World) => mFrexp (b := b) (sg Ieee.double b) hE hg hm0 hd hg2 hmd hd0 hd1 W
      rw [← hw] at HFR0
      obtain ⟨P1, hP1⟩ : ∃ P1 : Int, P1 = e64 (nE b) - d + 53 := ⟨_, rfl⟩
      rw [← hP1] at HFR0
      have HFR := Lib.hid HFR0
      have HLD := Lib.hid (fun (W : World) => mLdexpW (sg Ieee.double b) hg2 W)
      have hin := isN_w64 (sg Ieee.double b) 1075 g (by decide) (by decide) hg2
      rw [show (((1075 : Nat) : Int) - 1075) = 0 by decide] at hin
      have hVU : V (4503599627370496 + g) 0 / U = 4503599627370496 + g := by rw [V_U, Nat.mul_div_cancel _ U_pos]
      have hti := toI64 hin (by rw [hVU]; omega)
      rw [hVU] at hti
      have hc := fun (W : World) => run_convert_float_int (P := Try.prog) W 36 2 .f64 .i64 _ _ rfl Try.underlying2 hti
      have hsv : sv (sg Ieee.double b) (4503599627370496 + g) = nz b * 2 ^ d := by
        unfold nz
        rw [← hmd]
        unfold sv
        split <;> (push_cast; first | rfl | rw [Int.neg_mul])
      have hsb : -9007199254740992 < sv (sg Ieee.double b) (4503599627370496 + g) ∧ sv (sg Ieee.double b) (4503599627370496 + g) < 9007199254740992 := by unfold sv; split <;> omega
      have he := e64_bd hE
      have hne : ne b = e64 (nE b) := rfl
      have HNI := Lib.hid (fun (W : World) => Mc.newInt (w := W) (n := sv (sg Ieee.double b) (4503599627370496 + g)) (by omega) (by omega))
      have hbl : bl (sv (sg Ieee.double b) (4503599627370496 + g)).natAbs ≤ 53 := bl_le (by rw [show (2 : Nat) ^ 53 = 9007199254740992 by decide]; omega)
      have HRD0 := fun (W : World) (p : Nat) (hp : Z W p (sv (sg Ieee.double b) (4503599627370496 + g))) => nroundA (e := P1 - 53) (mode := mode) hp (by omega) (by omega) (by omega) hm.1 hm.2
      have hrr : rnd (sv (sg Ieee.double b) (4503599627370496 + g)) (P1 - 53) mode = naF b mode := by
        rw [hsv, rnd_shift, show P1 - 53 + (d : Int) = ne b by rw [hne]; omega]
        unfold naF
        rw [if_neg h0]
      rw [hrr] at HRD0
      have HRD := Lib.hid HRD0
      have HR := Lib.hid hr
      have hPb : -2000 ≤ P1 ∧ P1 ≤ 2000 := by omega
      clear hP1
      clear hr hm hf hn hnn HM0 h0 hm0 hmd hd0 hd1 HFR0 hin hVU hti hsv hsb hbl hrr HRD0 hne hg hg2 hw
      generalize sv (sg Ieee.double b) (4503599627370496 + g) = S at *
      generalize w64 (sg Ieee.double b) 1075 g = r1 at *
      generalize w64 (sg Ieee.double b) 1022 g = r0 at *
      clear hE he
      go_enter Try.func27, Try.ntmps27
      go_wp2_with fail
      refine (HN.out _).mono ?_
      rintro en w1 ⟨rfl, rfl⟩
      go_wp2_with fail
      refine (HI.out _).mono ?_
      rintro en w1 ⟨rfl, rfl⟩
      go_wp2_with fail
      refine (HM.out _).mono ?_
      rintro en w2 ⟨rfl, hb2⟩
      have HB2 := Lib.hid hb2
      clear hb2
      go_wp2_with fail
      refine (HFR.out _).mono ?_
      rintro en w3 ⟨rfl, rfl⟩
      go_wp2_with fail
      refine (HLD.out _).mono ?_
      rintro en w3 ⟨rfl, rfl⟩
      go_wp2_with fail
      refine (HNI.out _).mono ?_
      rintro en w4 ⟨p, rfl, hz4, _, hb4⟩
      have HZ4 := Lib.hid hz4
      have HB4 := Lib.hid (below_then HB2.out hb4)
      clear hz4 hb4
      go_wp2_with fail
      refine (HRD.out _ _ HZ4.out).mono ?_
      rintro en w5 ⟨rfl, hb5⟩
      have HB5 := Lib.hid (below_then HB4.out hb5)
      clear hb5
      go_wp2
      go_ret3
      exact ⟨by rw [HR.out]; rfl, HB5.out⟩
  · have hn : nan Ieee.double b = false := by unfold fin nan at *; simp at *; omega
    rw [hn] at hnn
    have HN := Lib.hid hnn
    have HI := Lib.hid (fun (W : World) => mIsInf b hb (by rw [fin_mod, decide_eq_true_iff] at hf; exact hf) W)
    rw [decide_eq_false hm] at HM0
    have HM := Lib.hid HM0
    have HR := Lib.hid hr
    clear hr hm hf hn hnn HM0
    go_enter Try.func27, Try.ntmps27
    go_wp2_with fail
    refine (HN.out _).mono ?_
    rintro en w1 ⟨rfl, rfl⟩
    go_wp2_with fail
    refine (HI.out _).mono ?_
    rintro en w1 ⟨rfl, rfl⟩
    go_wp2_with fail
    refine (HM.out _).mono ?_
    rintro en w2 ⟨rfl, hb2⟩
    have HB2 := Lib.hid hb2
    clear hb2
    go_wp2
    go_ret3
    exact ⟨by rw [HR.out]; rfl, HB2.out⟩
  · have HR := Lib.hid hr
    cases hn : nan Ieee.double b with
    | true =>
      rw [hn] at hnn
      have HN := Lib.hid hnn
      clear hr hf hn hnn HM0
      go_enter Try.func27, Try.ntmps27
      go_wp2_with fail
      refine (HN.out _).mono ?_
      rintro en w1 ⟨rfl, rfl⟩
      go_wp2
      go_ret3
      exact ⟨by rw [HR.out]; rfl, Below.refl _ _⟩
    | false =>
      rw [hn] at hnn
      have HN := Lib.hid hnn
      rw [fin_mod, decide_eq_false_iff_not] at hf
      rw [nan_mod2, decide_eq_false_iff_not] at hn
      have HI := Lib.hid (fun (W : World) => mIsInfTrue b hb (by omega) W)
      clear hr hf hn hnn HM0
      go_enter Try.func27, Try.ntmps27
      go_wp2_with fail
      refine (HN.out _).mono ?_
      rintro en w1 ⟨rfl, rfl⟩
      go_wp2_with fail
      refine (HI.out _).mono ?_
      rintro en w1 ⟨rfl, rfl⟩
      go_wp2
      go_ret3
      exact ⟨by rw [HR.out]; rfl, Below.refl _ _⟩
end Go.Proofs.Ytjddhnjjeomfjaa.Ao
end
section
set_option linter.unusedVariables false
set_option linter.unusedSimpArgs false
namespace Go.Proofs.Ytjddhnjjeomfjaa.Ap
open Go.RowKit Go.Proofs.Ytjddhnjjeomfjaa.Ma Go.Proofs.YtjddhnjjeomfjaaW.PrintWords Go.Proofs.YtjddhnjjeomfjaaW.PrintLast Go.Proofs.YtjddhnjjeomfjaaW.PrintMore Go.Proofs.Ytjddhnjjeomfjaa.PW Go.Proofs.Ytjddhnjjeomfjaa.Pb Go.Proofs.Ytjddhnjjeomfjaa.Pc Go.Proofs.Ytjddhnjjeomfjaa.Pm Go.Proofs.Ytjddhnjjeomfjaa.Pw Go.Proofs.Ytjddhnjjeomfjaa.Pv Go.Proofs.Ytjddhnjjeomfjaa.Mh Go.Proofs.Ytjddhnjjeomfjaa.Mu Go.Proofs.Ytjddhnjjeomfjaa.Na Go.Proofs.Ytjddhnjjeomfjaa.Nd Go.Proofs.Ytjddhnjjeomfjaa.Qa Go.Proofs.Ytjddhnjjeomfjaa.Nr Go.Proofs.Ytjddhnjjeomfjaa.Vr Go.Proofs.Ytjddhnjjeomfjaa.Re Go.Proofs.Ytjddhnjjeomfjaa.Rf Go.Proofs.Ytjddhnjjeomfjaa.Ae Go.Proofs.Ytjddhnjjeomfjaa.Af Go.Proofs.Ytjddhnjjeomfjaa.An Go.Proofs.Ytjddhnjjeomfjaa.Ao Go.Proofs.Ytjddhnjjeomfjaa.Vg Go.Proofs.Ytjddhnjjeomfjaa.Wd Go.Proofs.Ytjddhnjjeomfjaa.We Go.Proofs.Ytjddhnjjeomfjaa.Wh Dg Fp
open Go.Proofs.Ytjddhnjjeomfjaa.Wc (ret_bool)
theorem c53 : IsN Ieee.double 4845873199050653696 false (V 9007199254740992 0) := by
  have := isN_w64 false 1076 0 (by decide) (by decide) (by decide)
  have h := V_shift 4503599627370496 0 1 (by decide)
  rw [show (0 : Int) + ((1 : Nat) : Int) = 1 by decide] at h
  have a1 : (((1076 : Nat) : Int) - 1075) = 1 := by decide
  have a2 : (4503599627370496 * 2 ^ 1 : Nat) = 9007199254740992 := by decide
  rw [a2] at h
  have e1 : V (4503599627370496 + 0) (((1076 : Nat) : Int) - 1075) = V 9007199254740992 0 := (congrArg (V (4503599627370496 + 0)) a1).trans h
  rw [e1] at this
  exact this
theorem c53n : IsN Ieee.double 14069245235905429504 true (V 9007199254740992 0) := by
  have := isN_w64 true 1076 0 (by decide) (by decide) (by decide)
  have h := V_shift 4503599627370496 0 1 (by decide)
  rw [show (0 : Int) + ((1 : Nat) : Int) = 1 by decide] at h
  have a1 : (((1076 : Nat) : Int) - 1075) = 1 := by decide
  have a2 : (4503599627370496 * 2 ^ 1 : Nat) = 9007199254740992 := by decide
  rw [a2] at h
  have e1 : V (4503599627370496 + 0) (((1076 : Nat) : Int) - 1075) = V 9007199254740992 0 := (congrArg (V (4503599627370496 + 0)) a1).trans h
  rw [e1] at this
  exact this
theorem neg53 : Op.negFloat .f64 4845873199050653696 = 14069245235905429504 := by decide
theorem V_pos {m : Nat} (h : 0 < m) (e : Int) : 0 < V m e := by unfold V; exact Nat.mul_pos h (Nat.two_pow_pos _)
theorem cmp53 {v : Nat} {s : Bool} {A : Nat} (hx : IsN Ieee.double v s A) (h0 : 0 < A) :
    ((FloatKind.f64.format.order v 4845873199050653696 == some .gt) = (!s && decide (V 9007199254740992 0 < A)) ∧ (FloatKind.f64.format.order v 4845873199050653696 == some .eq) = (!s && decide (A = V 9007199254740992 0))) ∧
    (FloatKind.f64.format.order v 14069245235905429504 == some .lt) = (s && decide (V 9007199254740992 0 < A)) ∧ (FloatKind.f64.format.order v 14069245235905429504 == some .eq) = (s && decide (A = V 9007199254740992 0)) := by
  have o1 : FloatKind.f64.format.order v 4845873199050653696 = _ := order64 hx c53
  have o2 : FloatKind.f64.format.order v 14069245235905429504 = _ := order64 hx c53n
  have hC := V_pos (m := 9007199254740992) (by decide) 0
  rw [o1, o2, cmp_gt, cmp_eq, cmp_lt, cmp_eq]
  generalize V 9007199254740992 0 = C at *
  cases s
  all_goals
    simp only [sv, Bool.false_eq_true, if_false, if_true, Bool.not_false, Bool.not_true, Bool.true_and, Bool.false_and]
    refine ⟨⟨?_, ?_⟩, ?_, ?_⟩
    all_goals first
      | (rw [Bool.eq_iff_iff, decide_eq_true_iff, decide_eq_true_iff]; omega)
      | (rw [decide_eq_false_iff_not]; omega)
theorem V_div (m k : Nat) (hk : k ≤ 6000) : V m (-(k : Int)) / U = m / 2 ^ k := by
  unfold V U
  rw [show (-(k : Int) + K).toNat = 6000 - k by unfold K; omega, show (2 : Nat) ^ kN = 2 ^ k * 2 ^ (6000 - k) by rw [← Nat.pow_add]; congr 1; unfold kN; omega]
  exact Nat.mul_div_mul_right _ _ (Nat.two_pow_pos _)
theorem V_whole (m n k : Nat) (hk : k ≤ 6000) : V n 0 = V m (-(k : Int)) ↔ n * 2 ^ k = m := by
  have h := V_shift n (-(k : Int)) k (by unfold K; omega)
  rw [show -(k : Int) + (k : Int) = 0 by omega] at h
  rw [h]
  unfold V
  exact Nat.mul_left_inj (Nat.ne_of_gt (Nat.two_pow_pos _))
theorem cmpWhole {v : Nat} {s : Bool} {m k : Nat} (hk : k ≤ 6000) (hx : IsN Ieee.double v s (V m (-(k : Int)))) (hm : m < 9007199254740992) (h0 : 0 < m) :
    floatToIntVal .f64 v .i64 = some (sv s (m / 2 ^ k)) ∧ (FloatKind.f64.format.order (floatOfInt .f64 (sv s (m / 2 ^ k))) v == some .eq) = decide (m / 2 ^ k * 2 ^ k = m) := by
  have hle := Nat.div_le_self m (2 ^ k)
  have ht := toI64 hx (by rw [V_div _ _ hk]; omega)
  rw [V_div _ _ hk] at ht
  refine ⟨ht, ?_⟩
  generalize hn : m / 2 ^ k = n at *
  have hb : -9007199254740992 < sv s n ∧ sv s n < 9007199254740992 := by unfold sv; split <;> omega
  have hi := ofInt64 (sv s n) hb.1 hb.2
  have ha : (sv s n).natAbs = n := by unfold sv; split <;> omega
  rw [ha] at hi
  have ho : FloatKind.f64.format.order (floatOfInt .f64 (sv s n)) v = _ := order64 hi hx
  rw [ho, cmp_eq, Bool.eq_iff_iff, decide_eq_true_iff, decide_eq_true_iff, ← V_whole m n k hk]
  have hA := V_pos h0 (-(k : Int))
  have hz : n = 0 → V n 0 = 0 := fun h => by rw [h, V_zero]
  have hp : 0 < n → 0 < V n 0 := fun h => V_pos h 0
  generalize V m (-(k : Int)) = A at *
  generalize V n 0 = C at *
  have hdec : decide (sv s n < 0) = (s && decide (0 < n)) := by
    rw [Bool.eq_iff_iff, Bool.and_eq_true, decide_eq_true_iff, decide_eq_true_iff]
    unfold sv
    cases s <;> simp <;> omega
  rw [hdec]
  by_cases h : 0 < n
  · have := hp h
    rw [decide_eq_true h, Bool.and_true]
    unfold sv
    cases s <;> simp <;> omega
  · have := hz (by omega)
    rw [decide_eq_false h, Bool.and_false]
    unfold sv
    cases s <;> simp <;> omega
theorem not_beq {a b : Option Ordering} {c : Bool} (h : (a == b) = c) : (a != b) = !c := by unfold bne; rw [h]
theorem sv_bd {s : Bool} {n : Nat} (h : n < 9007199254740992) : -9007199254740992 < sv s n ∧ sv s n < 9007199254740992 := by unfold sv; split <;> omega
theorem sv_mul (s : Bool) (n k : Nat) : sv s n * 2 ^ k = sv s (n * 2 ^ k) := by
  unfold sv
  split <;> (push_cast; first | rfl | rw [Int.neg_mul])
theorem V_low {m : Nat} {q : Int} (hq : q ≤ 0) (hm : m < 9007199254740992) : V m q < V 9007199254740992 0 := by
  refine Nat.lt_of_le_of_lt ?_ ((V_mono 0).2 hm)
  unfold V
  exact Nat.mul_le_mul_left _ (Nat.pow_le_pow_right (by decide) (by omega))
theorem V_high {m : Nat} {q : Int} (hq : 1 ≤ q) (hm : 4503599627370496 ≤ m) : V 9007199254740992 0 ≤ V m q := by
  have h := V_shift m 0 q.toNat (by decide)
  rw [show (0 : Int) + (q.toNat : Int) = q by omega] at h
  rw [h]
  refine (V_le 0).2 ?_
  have : 2 ^ 1 ≤ 2 ^ q.toNat := Nat.pow_le_pow_right (by decide) (by omega)
  calc 9007199254740992 = 4503599627370496 * 2 ^ 1 := by decide
    _ ≤ m * 2 ^ q.toNat := Nat.mul_le_mul hm this
set_option maxRecDepth 20000 in
set_option maxHeartbeats 3200000 in
theorem sWide {w : World} {b : Nat} (hb : b < 18446744073709551616) (hf : fin Ieee.double b = true) (h0 : nz b ≠ 0) :
    Calls Try.prog 47 #[.float .f64 b] w fun en w' => ∃ u, en = .returned (.agg #[.int .i64 (dy (nz b) (ne b)).1, u, .int .i64 (dy (nz b) (ne b)).2.2]) ∧ Kd.R (Kd.int .i64) 2 w' w.heap.size (fun _ => True) u (dy (nz b) (ne b)).2.1 ∧ Below w.heap.size w w' := by
  obtain ⟨W0, hW0⟩ : ∃ W0, W0 = w.alloc (.cells #[.int .i64 0, .slice none 0 0, .int .i64 0] 33) := ⟨_, rfl⟩
  obtain ⟨hb0, hx0, hs0⟩ := boxes1 w (.cells #[.int .i64 0, .slice none 0 0, .int .i64 0] 33) W0 (by rw [hW0]; exact Below.refl _ _)
  have HB0 := Lib.hid hb0
  have HX0 := Lib.hid hx0
  have HW := Lib.hid hW0
  have HS0 := Lib.hid hs0
  obtain ⟨d0, d1, d2, f0, f1, f2, l1⟩ := cellsD hx0
  clear hb0 hx0 hW0 hs0
  have hz := zero64_iff hb hf
  rw [decide_eq_false h0] at hz
  obtain ⟨hw, hE, hg⟩ := parts64 hb hf
  have hin := isN64 (sg Ieee.double b) hE hg
  rw [← hw] at hin
  have hX := e64_bd hE
  have hm := m64_lt (E := nE b) hg
  have hm0 : 0 < m64 (nE b) (nf b) := by
    refine Nat.pos_of_ne_zero (fun h => h0 ?_)
    unfold nz; rw [h]; cases sg Ieee.double b <;> rfl
  have hm52 : 1 ≤ e64 (nE b) → 4503599627370496 ≤ m64 (nE b) (nf b) := fun h => by
    unfold e64 at h; unfold m64
    split at h
    · omega
    · rename_i hh; rw [if_neg hh]; omega
  have hne : ne b = e64 (nE b) := rfl
  have hnz : nz b = sv (sg Ieee.double b) (m64 (nE b) (nf b)) := rfl
  rw [hne, hnz]
  clear hw hE hg h0 hne hnz hf
  generalize e64 (nE b) = X at *
  generalize m64 (nE b) (nf b) = m at *
  generalize sg Ieee.double b = s at *
  have HIN := Lib.hid hin
  have HZ := hz
  clear hin
  obtain ⟨r1, r2, r3, hr⟩ : ∃ r1 r2 r3, dy (sv s m) X = (r1, r2, r3) := ⟨_, _, _, rfl⟩
  have HR := Lib.hid hr
  rw [hr]
  clear hr
  have hn53 := neg53
  go_enter Try.func47, Try.ntmps47
  go_upto_region 1 with fail
  rw [← HW.out]
  clear HW
  go_wp2_with fail
  go_loop [0, 3] (fun x e => ∃ v j : Nat, x = .float .f64 v ∧ e = .int .i64 (j : Int) ∧ Hid (IsN Ieee.double v s (V m (X - j))) ∧ (j = 0 ∨ (j : Int) ≤ X)) (fun _ e => (1000 - intOf e).toNat)
  case atStart => exact ⟨b, 0, rfl, rfl, Lib.hid (by rw [show X - ((0 : Nat) : Int) = X by omega]; exact HIN.out), .inl rfl⟩
  case round =>
    obtain ⟨v, j, rfl, rfl, HN, hj⟩ := hrel
    have hA0 := V_pos hm0 (X - j)
    obtain ⟨⟨p1, p2⟩, p3, p4⟩ := cmp53 HN.out hA0
    by_cases hq : 1 ≤ X - j
    · have hc := V_high hq (hm52 (by omega))
      have hh := halve_two HN.out (by omega) ⟨by rw [bi64]; omega, by rw [lp64]; omega, by rw [top64]; omega⟩
      obtain ⟨r, hr, hn⟩ := hh
      rw [show X - (j : Int) - 1 = X - ((j + 1 : Nat) : Int) by omega] at hn
      have HN2 := Lib.hid hn
      have hrun := run_float_arith (P := Try.prog) W0 .quo 36 .f64 v 4611686018427387904 r hr
      have hj1 : ((j + 1 : Nat) : Int) ≤ X := by omega
      clear hr hn HN
      rcases Nat.lt_or_eq_of_le hc with hlt | heq
      · rw [decide_eq_true hlt, Bool.and_true] at p1 p3
        rw [decide_eq_false (by omega), Bool.and_false] at p2 p4
        clear hlt hc hA0
        cases s
        all_goals
          go_wp2
          go_round
          case rel => exact ⟨r, j + 1, rfl, by push_cast; rfl, HN2, .inr hj1⟩
          case measure => (simp [intOf]) <;> omega
      · rw [decide_eq_false (by omega), Bool.and_false] at p1 p3
        rw [decide_eq_true heq.symm, Bool.and_true] at p2 p4
        clear heq hc hA0
        cases s
        all_goals
          go_wp2
          go_round
          case rel => exact ⟨r, j + 1, rfl, by push_cast; rfl, HN2, .inr hj1⟩
          case measure => (simp [intOf]) <;> omega
    · have hc := V_low (m := m) (q := X - j) (by omega) hm
      rw [decide_eq_false (by omega), Bool.and_false] at p1 p3
      rw [decide_eq_false (by omega), Bool.and_false] at p2 p4
      obtain ⟨k0, hk0⟩ : ∃ k0 : Nat, X - j = -(k0 : Int) := ⟨(-(X - j)).toNat, by omega⟩
      have hn0 := HN.out
      rw [hk0] at hn0
      have HN0 := Lib.hid hn0
      have hk1 : k0 ≤ 1074 := by omega
      have hjk : (j : Int) = X + k0 := by omega
      have HJK := Lib.hid hjk
      clear hc hA0 hn0 hk0 hjk hq hj HN
      go_wp2
      go_loop [0, 3] (fun x e => ∃ v k : Nat, k ≤ k0 ∧ x = .float .f64 v ∧ e = .int .i64 (X + k) ∧ Hid (IsN Ieee.double v s (V m (-(k : Int))))) (fun _ e => (intOf e - X).toNat)
      case atStart => exact ⟨v, k0, Nat.le_refl _, rfl, by rw [HJK.out], HN0⟩
      case round =>
        obtain ⟨v2, k, hk, rfl, rfl, HV⟩ := hrel
        obtain ⟨ht, ho⟩ := cmpWhole (by omega) HV.out hm hm0
        have hcv := run_convert_float_int (P := Try.prog) W0 36 2 .f64 .i64 v2 _ rfl Try.underlying2 ht
        clear ht p1 p2 p3 p4
        by_cases hwh : m / 2 ^ k * 2 ^ k = m
        · rw [decide_eq_true hwh] at ho
          have hon := not_beq ho
          have hle := Nat.div_le_self m (2 ^ k)
          have hsb : -9007199254740992 < sv s (m / 2 ^ k) ∧ sv s (m / 2 ^ k) < 9007199254740992 := sv_bd (Nat.lt_of_le_of_lt hle hm)
          have hsm : sv s (m / 2 ^ k) * 2 ^ k = sv s m := by rw [sv_mul, hwh]
          have hbl : bl (sv s (m / 2 ^ k)).natAbs ≤ 53 := bl_le (by rw [show (2 : Nat) ^ 53 = 9007199254740992 by decide]; omega)
          have hdy : dy (sv s (m / 2 ^ k)) (X + k) = (r1, r2, r3) := by rw [← HR.out, ← hsm, Qb.dy_shift]
          obtain ⟨K0, hK0⟩ := (sof (sv s (m / 2 ^ k)) (by omega) (by omega)).rounds
          obtain ⟨K1, hK1⟩ := (smakeD (sv s (m / 2 ^ k)) (X + k) (by omega) (by omega) (by omega)).rounds
          rw [hdy] at hK1
          have HO := Lib.hid (fun (W : World) => spec_l02Of.calls K0 (sv s (m / 2 ^ k)) _ _ W hK0)
          have HM := Lib.hid (fun (W : World) (A : Option Addr) (c : Nat) (h1 : Kd.C (Kd.int .i64) W A (L (sv s (m / 2 ^ k)).natAbs).length (L (sv s (m / 2 ^ k)).natAbs)) (h2 : (L (sv s (m / 2 ^ k)).natAbs).length ≤ c) => spec_l03Make.calls K1 (sgn (sv s (m / 2 ^ k))) A c (L (sv s (m / 2 ^ k)).natAbs) (X + k) _ _ _ W h1 h2 hK1)
          clear hwh hle hsb hsm hbl hdy hK0 hK1 HR HN0
          generalize sgn (sv s (m / 2 ^ k)) = sg1 at *
          generalize L (sv s (m / 2 ^ k)).natAbs = l at *
          generalize sv s (m / 2 ^ k) = Sv at *
          go_wp2_with fail
          refine (HO.out _).mono ?_
          rintro en w2 ⟨u, rfl, hR, hb⟩
          obtain ⟨A, c, rfl⟩ := Kd.R_slice hR
          have HRd := Lib.hid (Kd.R_reads' hR)
          have HB2 := Lib.hid hb
          clear hR hb d0 d1 d2 f0 f1 f2
          go_wp2_with fail
          refine (HM.out _ _ _ HRd.out.2.2 HRd.out.2.1).mono ?_
          rintro en w3 ⟨u, rfl, hR, hb⟩
          obtain ⟨A3, c3, rfl⟩ := Kd.R_slice hR
          have hb3 := below_then HB2.out hb
          have hx1 := (hb3.block _ l1).trans HX0.out
          obtain ⟨b0, b1, b2, g0, g1, g2, k1⟩ := cellsD hx1
          have HX2 := Lib.hid hx1
          have HB3 := Lib.hid (below_then HB0.out hb3)
          have HR3 := Lib.hid (Kd.R_lower (base' := w.heap.size) hR (by have h5 := HB2.out.size; have h6 := HB0.out.size; omega))
          clear hR hb hb3 hx1
          go_wp2
          have hst := storedD (s := r1) (x := r3) (u := .slice A3 r2.length c3) HX2.out HB3.out (by omega) HR3.out
          exact bodyPost_ret (results_single rfl (.cell w.heap.size 33 #[.int .i64 r1, .slice A3 r2.length c3, .int .i64 r3] (0, 0) _ rfl hst.1 Try.underlying33 rfl sizeD .nil)) rfl ⟨_, rfl, hst.2.1, hst.2.2⟩
        · rw [decide_eq_false hwh] at ho
          have hon := not_beq ho
          have hk2 : 1 ≤ k := by
            refine Nat.pos_of_ne_zero (fun h => hwh ?_)
            rw [h]; simp
          obtain ⟨r, hr, hn⟩ := double_two HV.out (by omega) ⟨by rw [bi64]; omega, by rw [lp64]; omega, by rw [top64]; omega⟩
          rw [show -(k : Int) + 1 = -((k - 1 : Nat) : Int) by omega] at hn
          have HN2 := Lib.hid hn
          have hrun := run_float_arith (P := Try.prog) W0 .mul 36 .f64 v2 4611686018427387904 r hr
          have hxk : X + (k : Int) - 1 = X + ((k - 1 : Nat) : Int) := by omega
          have HXK := Lib.hid hxk
          clear hr hn hwh hxk HV
          generalize sv s (m / 2 ^ k) = Sv at *
          go_wp2
          go_round
          case rel => exact ⟨r, k - 1, by omega, rfl, by rw [← HXK.out], HN2⟩
          case measure => (simp [intOf]) <;> omega
theorem zero_form {b : Nat} (hb : b < 18446744073709551616) (h0 : nz b = 0) : b = 0 ∨ b = 9223372036854775808 := by
  unfold nz nE nf m64 sv at h0
  split at h0 <;> split at h0 <;> omega
set_option maxRecDepth 20000 in
set_option maxHeartbeats 1600000 in
theorem sNarrow {w : World} {b : Nat} {mode : Int} (hb : b < 18446744073709551616) :
    Calls Try.prog 26 #[.float .f64 b, .int .i64 mode] w fun en w' => en = .returned (.tuple #[.float .f32 (naI b mode).1, .int .i64 (naI b mode).2.1, .int .i64 (naI b mode).2.2]) ∧ Below w.heap.size w w' := by
  have HM0 := fun (W : World) => cSMode (w := W) mode
  have hz00 : (FloatKind.f64.format.order 0 0 != some .eq) = false := by decide +kernel
  rcases naI_cases b mode with ⟨hf, hm, hr⟩ | ⟨hf, hm, hr⟩ | ⟨hf, hr⟩
  · have hrun := run_float_arith (P := Try.prog) w .sub 36 .f64 b b 0 (sub64_fin b hb hf)
    rw [decide_eq_true hm] at HM0
    have HM := Lib.hid HM0
    have hz := zero64_iff hb hf
    by_cases h0 : nz b = 0
    · have HR := Lib.hid (show naI b mode = (z0 (sg Ieee.double b), 0, 0) by rw [hr]; unfold naF; rw [if_pos h0])
      have HSZ := Lib.hid (fun (W : World) (c : Bool) => sZero (w := W) c)
      rcases zero_form hb h0 with rfl | rfl
      · have hsg : sg Ieee.double 0 = false := by decide
        rw [hsg] at HR
        have hd := fun (W : World) => run_float_arith (P := Try.prog) W .quo 36 .f64 4607182418800017408 0 9218868437227405312 (by decide +kernel)
        have hl2 : (FloatKind.f64.format.order 9218868437227405312 0 == some .lt) = false := by decide +kernel
        have hzz : (FloatKind.f64.format.order 0 0 == some .eq) = true := by decide +kernel
        clear hr hm hf HM0 h0 hsg hz
        go_enter Try.func26, Try.ntmps26
        go_wp2_with fail
        refine (HM.out _).mono ?_
        rintro en w2 ⟨rfl, hb2⟩
        have HB2 := Lib.hid hb2
        clear hb2
        go_wp2_with fail
        refine (HSZ.out _ _).mono ?_
        rintro en w3 ⟨rfl, rfl⟩
        go_wp2
        go_ret3
        exact ⟨by rw [HR.out]; rfl, HB2.out⟩
      · have hsg : sg Ieee.double 9223372036854775808 = true := by decide
        rw [hsg] at HR
        have hd := fun (W : World) => run_float_arith (P := Try.prog) W .quo 36 .f64 4607182418800017408 9223372036854775808 18442240474082181120 (by decide +kernel)
        have hl2 : (FloatKind.f64.format.order 18442240474082181120 0 == some .lt) = true := by decide +kernel
        have hzz : (FloatKind.f64.format.order 9223372036854775808 0 == some .eq) = true := by decide +kernel
        clear hr hm hf HM0 h0 hsg hz
        go_enter Try.func26, Try.ntmps26
        go_wp2_with fail
        refine (HM.out _).mono ?_
        rintro en w2 ⟨rfl, hb2⟩
        have HB2 := Lib.hid hb2
        clear hb2
        go_wp2_with fail
        refine (HSZ.out _ _).mono ?_
        rintro en w3 ⟨rfl, rfl⟩
        go_wp2
        go_ret3
        exact ⟨by rw [HR.out]; rfl, HB2.out⟩
    · rw [decide_eq_false h0] at hz
      have HSW0 := fun (W : World) => sWide (w := W) hb hf h0
      obtain ⟨r1, r2, r3, hd⟩ : ∃ r1 r2 r3, dy (nz b) (ne b) = (r1, r2, r3) := ⟨_, _, _, rfl⟩
      rw [hd] at HSW0
      have HSW := Lib.hid HSW0
      obtain ⟨hw, hE, hg⟩ := parts64 hb hf
      have hX : -1074 ≤ ne b ∧ ne b ≤ 971 := e64_bd hE
      have hlt := m64_lt (E := nE b) hg
      have hbl : bl (nz b).natAbs ≤ 53 := bl_le (by
        rw [show (2 : Nat) ^ 53 = 9007199254740992 by decide]
        have := sv_bd (s := sg Ieee.double b) hlt
        unfold nz; omega)
      have HSR0 := fun (W : World) (A : Option Addr) (k : Nat) (hC : (Kd.int .i64).C W A r2.length r2) (hc : r2.length ≤ k) => sroundY (mode := mode) hd h0 (by omega) (by omega) (by omega) hm.1 hm.2 hC hc
      rw [show rnd (nz b) (ne b) mode = naF b mode by unfold naF; rw [if_neg h0]] at HSR0
      have HSR := Lib.hid HSR0
      have HR := Lib.hid hr
      clear hr hm hf HM0 h0 hd HSW0 hw hE hg hX hlt hbl HSR0
      go_enter Try.func26, Try.ntmps26
      go_wp2_with fail
      refine (HM.out _).mono ?_
      rintro en w2 ⟨rfl, hb2⟩
      have HB2 := Lib.hid hb2
      clear hb2
      go_wp2_with fail
      refine (HSW.out _).mono ?_
      rintro en w3 ⟨u, rfl, hR, hb3⟩
      obtain ⟨A, c, rfl⟩ := Kd.R_slice hR
      have HRd := Lib.hid (Kd.R_reads' hR)
      have HB3 := Lib.hid (below_then HB2.out hb3)
      clear hR hb3
      go_wp2_with fail
      refine (HSR.out _ _ _ HRd.out.2.2 HRd.out.2.1).mono ?_
      rintro en w4 ⟨rfl, hb4⟩
      have HB4 := Lib.hid (below_then HB3.out hb4)
      clear hb4
      go_wp2
      go_ret3
      exact ⟨by rw [HR.out]; rfl, HB4.out⟩
  · have hrun := run_float_arith (P := Try.prog) w .sub 36 .f64 b b 0 (sub64_fin b hb hf)
    rw [decide_eq_false hm] at HM0
    have HM := Lib.hid HM0
    have HR := Lib.hid hr
    clear hr hm hf HM0
    go_enter Try.func26, Try.ntmps26
    go_wp2_with fail
    refine (HM.out _).mono ?_
    rintro en w2 ⟨rfl, hb2⟩
    have HB2 := Lib.hid hb2
    clear hb2
    go_wp2
    go_ret3
    exact ⟨by rw [HR.out]; rfl, HB2.out⟩
  · obtain ⟨r, hrn, h1, h2⟩ := run_arith_none64 (P := Try.prog) w .sub (by simp) 36 b b (sub64_not b hb hf)
    have ho : FloatKind.f64.format.order r 0 = none := order_nan hf64 (by rw [wd64]; exact h1) (by rw [wd64]; omega) (.inl h2)
    have hon : (FloatKind.f64.format.order r 0 != some .eq) = true := by rw [ho]; rfl
    have HR := Lib.hid hr
    have HBW := Lib.hid (show Below w.heap.size w w.drew from below_drew (Below.refl _ _))
    clear hr hf h2 ho HM0
    go_enter Try.func26, Try.ntmps26
    go_wp2
    go_ret3
    exact ⟨by rw [HR.out]; rfl, HBW.out⟩
set_option maxRecDepth 20000 in
set_option maxHeartbeats 800000 in
theorem walk (w : World) (x : Nat) (hx0 : (Lit.float .f64 x).wf = true) (mode : Int) (_ : (Lit.int .i64 mode).wf = true) :
    Calls Try.prog 9 #[.float .f64 x, .int .i64 mode] w fun e w' => e = .returned (.bool true) ∧ Below w.heap.size w w' := by
  have hx : x < 18446744073709551616 := by simpa [Lit.wf] using hx0
  have sp := fun (W : World) => sNarrow (w := W) (mode := mode) hx
  have im := fun (W : World) => iNarrow (w := W) (mode := mode) hx
  have hok := naI_ok x mode
  generalize naI x mode = r at sp im hok
  obtain ⟨g, f, cd⟩ := r
  dsimp only at sp im hok
  have SP := Lib.hid sp
  have IM := Lib.hid im
  obtain ⟨q, hq, hq1, hq2⟩ := wide_of hok.1 hok.2
  have hc2 := fun w => run_convert_float_float (P := Try.prog) w 28 36 .f32 .f64 g q rfl Try.underlying36 hq
  have HSF := Lib.hid (fun (W : World) => sameFloat_self q hq1 hq2 W)
  clear hx0 hx sp im hok hq hq1 hq2
  go_enter Try.func9, Try.ntmps9
  go_wp2_with fail
  refine (SP.out _).mono ?_
  rintro e w1 ⟨rfl, hb⟩
  have HB1 := Lib.hid hb
  clear hb
  go_wp2_with fail
  refine (IM.out _).mono ?_
  rintro e w2 ⟨rfl, hb⟩
  have HB2 := Lib.hid (below_then HB1.out hb)
  clear hb
  go_wp2_with (first | (go_at_call 14; refine (HSF.out _).mono ?_; rintro e w' ⟨rfl, rfl⟩))
  go_ret
  exact ⟨rfl, HB2.out⟩
end Go.Proofs.Ytjddhnjjeomfjaa.Ap
end
