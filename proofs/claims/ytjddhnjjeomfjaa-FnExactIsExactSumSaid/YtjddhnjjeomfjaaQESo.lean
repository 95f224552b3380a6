/- Lemmas of the claim: Mf, Mg, Mh, Mi, Mj, Mk, Ml, Mn, Mo, Mq, Mr, Mu, Re, Rf, Na, Nc, Qc, Nd, Nf, Va, Ad, Sl, Hs, Nr, Sr, Ng, Vr, Ae, Vb, Af, Ag, LIsExactSum. -/
import Derived.RegionTactic
import Derived.ChangeAlike
import Derived.Laws.CopyOwn
import Derived.Deep.OwnRows
import Derived.Test.YtjddhnjjeomfjaaQESn
import Derived.Test.YtjddhnjjeomfjaaQESg
import Derived.Deep.RegionLaw
import Derived.Test.YtjddhnjjeomfjaaQESc
import Derived.Test.YtjddhnjjeomfjaaQESk
import Derived.Test.YtjddhnjjeomfjaaQESa
import Derived.Test.YtjddhnjjeomfjaaQESi
import Derived.Test.YtjddhnjjeomfjaaQESj
import Derived.OwnWalk
import Derived.Test.YtjddhnjjeomfjaaQESf
section
set_option linter.unusedVariables false
set_option linter.unusedSimpArgs false
namespace Go.Proofs.Ytjddhnjjeomfjaa.Mf
open Go.RowKit Go.Proofs.YtjddhnjjeomfjaaW.PrintWords Go.Proofs.Ytjddhnjjeomfjaa.PW Go.Proofs.Ytjddhnjjeomfjaa.Pc Go.Proofs.Ytjddhnjjeomfjaa.Ma Go.Proofs.Ytjddhnjjeomfjaa.Mb Go.Proofs.Ytjddhnjjeomfjaa.Mc Go.Proofs.Ytjddhnjjeomfjaa.Md Go.Proofs.Ytjddhnjjeomfjaa.Me Dg
theorem D_or (a b i : Nat) : (D (a ||| b)).getD i 0 = (((a / 4294967296 ^ i % 4294967296) ||| (b / 4294967296 ^ i % 4294967296) : Nat) : Int) := by
  rw [D_getD]
  congr 1
  rw [show (4294967296 : Nat) = 2 ^ 32 from rfl, ← Nat.pow_mul]
  have h1 : (a ||| b) / 2 ^ (32 * i) = a / 2 ^ (32 * i) ||| b / 2 ^ (32 * i) := by
    rw [← Nat.shiftRight_eq_div_pow, ← Nat.shiftRight_eq_div_pow, ← Nat.shiftRight_eq_div_pow, Nat.shiftRight_or_distrib]
  rw [h1, Nat.or_mod_two_pow]
theorem or_list {a b : Nat} {ys : List Int} (hl : ys.length = max (D a).length (D b).length) (h : ∀ j, j < ys.length → ys.getD j 0 = bits .or .u32 ((D a).getD j 0) ((D b).getD j 0)) : Dig 4294967296 ys ∧ val 4294967296 ys = ((a ||| b : Nat) : Int) := by
  have hb : ∀ j, bits .or .u32 ((D a).getD j 0) ((D b).getD j 0) = (((a ||| b) / 4294967296 ^ j % 4294967296 : Nat) : Int) := by
    intro j
    rw [← D_getD, D_or, D_getD, D_getD]
    exact (bits_nat .u32 32 (by decide) Po.wraps_u32 _ _ (Nat.mod_lt _ (by decide)) (Nat.mod_lt _ (by decide))).2
  have h2 : ∀ j, j < ys.length → ys.getD j 0 = (((a ||| b) / 4294967296 ^ j % 4294967296 : Nat) : Int) := fun j hj => by rw [h j hj, hb]
  constructor
  · exact dig_of_getD fun j hj => by rw [h2 j hj]; have := Nat.mod_lt ((a ||| b) / 4294967296 ^ j) (show 0 < 4294967296 by decide); omega
  · rw [val_digits (by decide) ys (a ||| b) h2]
    congr 1
    apply Nat.mod_eq_of_lt
    have e : (4294967296 : Nat) = 2 ^ 32 := rfl
    rw [e, ← Nat.pow_mul]
    apply Nat.or_lt_two_pow
    · have := D_bl a
      have h3 := lt_bl a
      have := Nat.pow_le_pow_right (n := 2) (by decide) (show bl a ≤ 32 * ys.length by omega)
      omega
    · have := D_bl b
      have h3 := lt_bl b
      have := Nat.pow_le_pow_right (n := 2) (by decide) (show bl b ≤ 32 * ys.length by omega)
      omega
def OrTo (a b : Nat) (m i : Nat) (ys : List Int) : Prop := ys.length = m ∧ (∀ j, j < i → ys.getD j 0 = bits .or .u32 ((D a).getD j 0) ((D b).getD j 0)) ∧ (∀ j, i ≤ j → ys.getD j 0 = (D a).getD j 0)
theorem OrTo.step {a b m i : Nat} {ys : List Int} (h : OrTo a b m i ys) (hi : i < m) : OrTo a b m (i + 1) (ys.set i (bits .or .u32 ((D a).getD i 0) ((D b).getD i 0))) := by
  obtain ⟨h1, h2, h3⟩ := h
  refine ⟨by simpa using h1, fun j hj => ?_, fun j hj => ?_⟩
  · by_cases e : j = i
    · subst e; rw [Dg.getD_set_eq (by omega)]
    · rw [Dg.getD_set_ne (by omega)]; exact h2 j (by omega)
  · rw [Dg.getD_set_ne (by omega)]; exact h3 j (by omega)
theorem or_zero (a j : Nat) : bits .or .u32 ((D a).getD j 0) 0 = (D a).getD j 0 := by
  have := (bits_nat .u32 32 (by decide) Po.wraps_u32 (a / 4294967296 ^ j % 4294967296) 0 (Nat.mod_lt _ (by decide)) (by decide)).2
  rw [D_getD]
  simpa using this
theorem OrTo.done {a b m : Nat} {ys : List Int} (h : OrTo a b m (D b).length ys) (hm : m = max (D a).length (D b).length) : Dig 4294967296 ys ∧ val 4294967296 ys = ((a ||| b : Nat) : Int) := by
  obtain ⟨h1, h2, h3⟩ := h
  refine or_list (by omega) fun j hj => ?_
  by_cases hjb : j < (D b).length
  · exact h2 j hjb
  · rw [h3 j (by omega), getD_ge (l := D b) (by omega), or_zero]
end Go.Proofs.Ytjddhnjjeomfjaa.Mf
end
section
namespace Go.Proofs.Ytjddhnjjeomfjaa.Mg
end Go.Proofs.Ytjddhnjjeomfjaa.Mg
end
section
set_option linter.unusedVariables false
set_option linter.unusedSimpArgs false
namespace Go.Proofs.Ytjddhnjjeomfjaa.Mh
open Go.RowKit Go.Proofs.YtjddhnjjeomfjaaW.PrintWords Go.Proofs.Ytjddhnjjeomfjaa.PW Go.Proofs.Ytjddhnjjeomfjaa.Pc Go.Proofs.Ytjddhnjjeomfjaa.Pb Go.Proofs.Ytjddhnjjeomfjaa.Pw Go.Proofs.Ytjddhnjjeomfjaa.Ma Go.Proofs.Ytjddhnjjeomfjaa.Mb Go.Proofs.Ytjddhnjjeomfjaa.Mc Go.Proofs.Ytjddhnjjeomfjaa.Md Go.Proofs.Ytjddhnjjeomfjaa.Me Go.Proofs.Ytjddhnjjeomfjaa.Mg Dg
theorem C_at {w w1 : World} {A : Option Addr} {l : List Int} (hC : (Kd.int .i64).C w A l.length l) (hb : Below w.heap.size w w1) : (Kd.int .i64).C w1 A l.length l := Kd.C_below hC hb
end Go.Proofs.Ytjddhnjjeomfjaa.Mh
end
section
set_option linter.unusedVariables false
set_option linter.unusedSimpArgs false
namespace Go.Proofs.Ytjddhnjjeomfjaa.Mi
open Go.RowKit Go.Proofs.YtjddhnjjeomfjaaW.PrintWords Go.Proofs.Ytjddhnjjeomfjaa.PW Go.Proofs.Ytjddhnjjeomfjaa.Pc Go.Proofs.Ytjddhnjjeomfjaa.Ma Go.Proofs.Ytjddhnjjeomfjaa.Mb Go.Proofs.Ytjddhnjjeomfjaa.Mc Go.Proofs.Ytjddhnjjeomfjaa.Md Go.Proofs.Ytjddhnjjeomfjaa.Me Dg
open Pm (sgn)
set_option maxHeartbeats 800000 in
theorem cmp {w : World} {p q : Nat} {x y : Int} (hx : Z w p x) (hy : Z w q y) (h1 : bl x.natAbs ≤ 1073741823) (h2 : bl y.natAbs ≤ 1073741823) :
    Calls Try.prog 73 #[.pointer (some ⟨p, 0, none⟩), .pointer (some ⟨q, 0, none⟩)] w (Tells w (.int .i64 (sgn (x - y)))) := by
  obtain ⟨A, c, k0, k1, hm, hp⟩ := Z.open hx
  obtain ⟨B, d, j0, j1, hn, hq⟩ := Z.open hy
  have hC := fun (W : World) (hb : Below w.heap.size w W) => cCmp (hm.below hb) (hn.below hb) (by omega) (by omega)
  have hD := fun (W : World) (hb : Below w.heap.size w W) => cCmp (hn.below hb) (hm.below hb) (by omega) (by omega)
  by_cases hxn : x < 0 <;> by_cases hyn : y < 0
  · have e : sgn ((y.natAbs : Int) - x.natAbs) = sgn (x - y) := by congr 1; omega
    rw [e] at hD
    rw [show decide (x < 0) = true by simpa using hxn] at k0
    rw [show decide (y < 0) = true by simpa using hyn] at j0
    have HD := Lib.hid hD
    clear hC hD e hxn hyn h1 h2 hm hn hx hy
    go_enter Try.func73, Try.ntmps73
    go_wp2
    go_quiet ((go_at_call 120; exact Calls.quiet_of (HD.out _ (below_drawn _))))
    go_wp2
    go_ret
    exact ⟨rfl, _, rfl⟩
  · have e : sgn (x - y) = -1 := by unfold sgn; rw [if_pos (by omega)]
    rw [e]
    rw [show decide (x < 0) = true by simpa using hxn] at k0
    rw [show decide (y < 0) = false by simpa using hyn] at j0
    clear hC hD e hxn hyn h1 h2 hm hn hx hy
    go_enter Try.func73, Try.ntmps73
    go_wp2
    go_ret
    exact ⟨rfl, 0, rfl⟩
  · have e : sgn (x - y) = 1 := by unfold sgn; rw [if_neg (by omega), if_neg (by omega)]
    rw [e]
    rw [show decide (x < 0) = false by simpa using hxn] at k0
    rw [show decide (y < 0) = true by simpa using hyn] at j0
    clear hC hD e hxn hyn h1 h2 hm hn hx hy
    go_enter Try.func73, Try.ntmps73
    go_wp2
    go_ret
    exact ⟨rfl, 0, rfl⟩
  · have e : sgn ((x.natAbs : Int) - y.natAbs) = sgn (x - y) := by congr 1; omega
    rw [e] at hC
    rw [show decide (x < 0) = false by simpa using hxn] at k0
    rw [show decide (y < 0) = false by simpa using hyn] at j0
    have HC := Lib.hid hC
    clear hC hD e hxn hyn h1 h2 hm hn hx hy
    go_enter Try.func73, Try.ntmps73
    go_wp2
    go_quiet ((go_at_call 120; exact Calls.quiet_of (HC.out _ (below_drawn _))))
    go_wp2
    go_ret
    exact ⟨rfl, _, rfl⟩
def sv (n : Bool) (m : Nat) : Int := if n = true then -(m : Int) else m
theorem sv_abs (z : Int) : sv (decide (z < 0)) z.natAbs = z := natAbs_if z
set_option maxHeartbeats 1600000 in
theorem plus {w : World} {p q : Nat} {x : Int} {neg : Bool} {B : Option Addr} {d m : Nat} (hp : Blk w p) (hx : Z w q x) (hn : Mg w B d (D m)) (h1 : bl x.natAbs ≤ 536870912) (h2 : bl m ≤ 536870912) :
    Calls Try.prog 119 #[.pointer (some ⟨p, 0, none⟩), .pointer (some ⟨q, 0, none⟩), .bool neg, .slice B (D m).length d] w (Puts w p (x + sv neg m)) := by
  obtain ⟨A, c, k0, k1, hm, hq⟩ := Z.open hx
  have hadd := bl_add_le x.natAbs m
  have hA := fun (W : World) (hb : Below w.heap.size w W) => (cAdd (hm.below hb) (hn.below hb) (by omega) (by omega)).mono fun e w' h => GivesMg.of hb h
  have hC := fun (W : World) (hb : Below w.heap.size w W) => cCmp (hm.below hb) (hn.below hb) (by omega) (by omega)
  by_cases hs : decide (x < 0) = neg
  · -- one sign
    have e : (if neg = true then -((x.natAbs + m : Nat) : Int) else ((x.natAbs + m : Nat) : Int)) = x + sv neg m := by
      rw [← sv_abs x, hs]; unfold sv
      cases neg <;> simp <;> omega
    have hP := fun (w1 : World) (A' : Option Addr) (c' : Nat) h1 h2 => put_of (w1 := w1) (A := A') (c := c') (neg := neg) (n := x.natAbs + m) hp h1 h2 (by omega)
    rw [e] at hP
    rw [hs] at k0
    have HP := Lib.hid hP
    have HA := Lib.hid hA
    clear hA hC hP e hs hadd h1 h2 hm hn hx hp
    cases neg
    all_goals
      go_enter Try.func119, Try.ntmps119
      go_wp2_with fail
      refine (HA.out _ (Below.refl _ _)).mono ?_
      rintro e w1 ⟨A', c', rfl, hm', hb'⟩
      have HPM := Lib.hid (HP.out w1 A' c' hb' hm')
      clear hm' hb'
      go_wp2_with fail
      refine HPM.out.mono ?_
      rintro e w2 ⟨rfl, hz2, hg2⟩
      have HE := Lib.hid (show Puts w p _ _ w2 from ⟨rfl, hz2, hg2⟩)
      clear hz2 hg2
      go_wp2
      go_ret
      exact HE.out
  · have hneq : neg = !decide (x < 0) := by cases neg <;> cases h : decide (x < 0) <;> simp_all
    by_cases hge : m ≤ x.natAbs
    · have hS := fun (W : World) (hb : Below w.heap.size w W) => (cSub (hm.below hb) (hn.below hb) (by omega) hge).mono fun e w' h => GivesMg.of hb h
      have hmo := bl_mono (Nat.sub_le x.natAbs m)
      have e : (if decide (x < 0) = true then -((x.natAbs - m : Nat) : Int) else ((x.natAbs - m : Nat) : Int)) = x + sv neg m := by
        rw [hneq]; unfold sv
        by_cases h : x < 0 <;> simp [h] <;> omega
      have hP := fun (w1 : World) (A' : Option Addr) (c' : Nat) h1 h2 => put_of (w1 := w1) (A := A') (c := c') (neg := decide (x < 0)) (n := x.natAbs - m) hp h1 h2 (by omega)
      rw [e] at hP
      have es : sgn ((x.natAbs : Int) - m) = sgn ((x.natAbs - m : Nat) : Int) := by congr 1; omega
      have es0 : 0 ≤ sgn ((x.natAbs : Int) - m) := by unfold sgn; split <;> (try split) <;> omega
      have HP := Lib.hid hP
      have HS := Lib.hid hS
      have HC := Lib.hid hC
      clear hA hC hP hS e hs hadd h1 h2 hm hn hx hp es hmo hge
      generalize sgn ((x.natAbs : Int) - m) = sg at *
      rw [hneq] at *
      clear hneq
      generalize decide (x < 0) = b at *
      cases b
      all_goals
        go_enter Try.func119, Try.ntmps119
        go_wp2_with fail
        refine (HC.out _ (Below.refl _ _)).mono ?_
        rintro e w1 ⟨rfl, n, rfl⟩
        go_wp2_with fail
        go_region_with (first | (go_at_call 117; refine (HS.out _ (by first | exact below_drawn _ | exact (below_drawn _).drew)).mono ?_; rintro e w1 ⟨A', c', rfl, hm', hb'⟩; have HPM := Lib.hid (HP.out w1 A' c' hb' hm'); have k0' := (hb'.cell (p := ⟨q, 0, none⟩) hq).trans k0; clear hm' hb') | (go_at_call 113; refine HPM.out.mono ?_; rintro e w2 ⟨rfl, hz2, hg2⟩; have HE := Lib.hid (show Puts w p _ _ w2 from ⟨rfl, hz2, hg2⟩); clear hz2 hg2))
        all_goals go_wp2
        all_goals go_ret
        all_goals exact HE.out
    · have hS := fun (W : World) (hb : Below w.heap.size w W) => (cSub (hn.below hb) (hm.below hb) (by omega) (by omega)).mono fun e w' h => GivesMg.of hb h
      have hmo := bl_mono (Nat.sub_le m x.natAbs)
      have e : (if neg = true then -((m - x.natAbs : Nat) : Int) else ((m - x.natAbs : Nat) : Int)) = x + sv neg m := by
        rw [hneq]; unfold sv
        by_cases h : x < 0 <;> simp [h] <;> omega
      have hP := fun (w1 : World) (A' : Option Addr) (c' : Nat) h1 h2 => put_of (w1 := w1) (A := A') (c := c') (neg := neg) (n := m - x.natAbs) hp h1 h2 (by omega)
      rw [e] at hP
      have es : sgn ((x.natAbs : Int) - m) = -1 := by unfold sgn; rw [if_pos (by omega)]
      rw [es] at hC
      have HP := Lib.hid hP
      have HS := Lib.hid hS
      have HC := Lib.hid hC
      clear hA hC hP hS e hs hadd h1 h2 hm hn hx hp es hmo hge
      rw [hneq] at *
      clear hneq
      generalize decide (x < 0) = b at *
      cases b
      all_goals
        go_enter Try.func119, Try.ntmps119
        go_wp2_with fail
        refine (HC.out _ (Below.refl _ _)).mono ?_
        rintro e w1 ⟨rfl, n, rfl⟩
        go_wp2_with fail
        refine (HS.out _ (below_drawn _)).mono ?_
        rintro e w1 ⟨A', c', rfl, hm', hb'⟩
        have HPM := Lib.hid (HP.out w1 A' c' hb' hm')
        clear hm' hb'
        go_wp2_with fail
        refine HPM.out.mono ?_
        rintro e w2 ⟨rfl, hz2, hg2⟩
        have HE := Lib.hid (show Puts w p _ _ w2 from ⟨rfl, hz2, hg2⟩)
        clear hz2 hg2
        go_wp2
        go_ret
        exact HE.out
end Go.Proofs.Ytjddhnjjeomfjaa.Mi
end
section
set_option linter.unusedVariables false
set_option linter.unusedSimpArgs false
namespace Go.Proofs.Ytjddhnjjeomfjaa.Mj
open Go.RowKit Go.Proofs.YtjddhnjjeomfjaaW.PrintWords Go.Proofs.Ytjddhnjjeomfjaa.PW Go.Proofs.Ytjddhnjjeomfjaa.Pc Go.Proofs.Ytjddhnjjeomfjaa.Ma Go.Proofs.Ytjddhnjjeomfjaa.Mb Go.Proofs.Ytjddhnjjeomfjaa.Mc Go.Proofs.Ytjddhnjjeomfjaa.Md Go.Proofs.Ytjddhnjjeomfjaa.Me Go.Proofs.Ytjddhnjjeomfjaa.Mi Dg
open Pm (sgn)
theorem Puts.of {w W w' : World} {p : Nat} {z : Int} {e : Ending} (hb : Below w.heap.size w W) (h : Puts W p z e w') : Puts w p z e w' := Mc.Puts.below hb h
set_option maxHeartbeats 1600000 in
theorem add {w : World} {p q s : Nat} {x y : Int} (hp : Blk w p) (hx : Z w q x) (hy : Z w s y) (h1 : bl x.natAbs ≤ 536870912) (h2 : bl y.natAbs ≤ 536870912) :
    Calls Try.prog 75 #[.pointer (some ⟨p, 0, none⟩), .pointer (some ⟨q, 0, none⟩), .pointer (some ⟨s, 0, none⟩)] w (Puts w p (x + y)) := by
  obtain ⟨B, d, j0, j1, hn, hs⟩ := Z.open hy
  have hP := fun (W : World) (hb : Below w.heap.size w W) => (plus (neg := decide (y < 0)) (hp.below hb) (hx.below hb) (hn.below hb) h1 h2).mono fun e w' h => Puts.of hb h
  rw [sv_abs] at hP
  have HP := Lib.hid hP
  clear hP hn h1 h2 hp hx hy
  generalize decide (y < 0) = b at *
  go_enter Try.func75, Try.ntmps75
  go_wp2
  go_region_with (go_at_call 119; refine (HP.out _ (by first | exact Below.refl _ _ | exact (Below.refl _ _).drew)).mono ?_; rintro e w2 ⟨rfl, hz2, hg2⟩; have HE := Lib.hid (show Puts w p (x + y) _ w2 from ⟨rfl, hz2, hg2⟩); clear hz2 hg2)
  all_goals go_wp2
  all_goals go_ret
  all_goals exact HE.out
set_option maxHeartbeats 1600000 in
theorem sub {w : World} {p q s : Nat} {x y : Int} (hp : Blk w p) (hx : Z w q x) (hy : Z w s y) (h1 : bl x.natAbs ≤ 536870912) (h2 : bl y.natAbs ≤ 536870912) :
    Calls Try.prog 71 #[.pointer (some ⟨p, 0, none⟩), .pointer (some ⟨q, 0, none⟩), .pointer (some ⟨s, 0, none⟩)] w (Puts w p (x - y)) := by
  obtain ⟨B, d, j0, j1, hn, hs⟩ := Z.open hy
  have hP := fun (W : World) (hb : Below w.heap.size w W) => (plus (neg := !decide (y < 0)) (hp.below hb) (hx.below hb) (hn.below hb) h1 h2).mono fun e w' h => Puts.of hb h
  rw [show sv (!decide (y < 0)) y.natAbs = -y from natAbs_neg_if y, ← Int.sub_eq_add_neg] at hP
  have HP := Lib.hid hP
  clear hP hn h1 h2 hp hx hy
  generalize decide (y < 0) = b at *
  go_enter Try.func71, Try.ntmps71
  go_wp2
  go_region_with (go_at_call 119; refine (HP.out _ (by first | exact Below.refl _ _ | exact (Below.refl _ _).drew)).mono ?_; rintro e w2 ⟨rfl, hz2, hg2⟩; have HE := Lib.hid (show Puts w p (x - y) _ w2 from ⟨rfl, hz2, hg2⟩); clear hz2 hg2)
  all_goals go_wp2
  all_goals go_ret
  all_goals exact HE.out
theorem mul_sign (x y : Int) : (if (decide (x < 0) != decide (y < 0)) = true then -((x.natAbs * y.natAbs : Nat) : Int) else ((x.natAbs * y.natAbs : Nat) : Int)) = x * y := by
  rw [Int.natCast_mul]
  by_cases hx : x < 0 <;> by_cases hy : y < 0
  · rw [show (x.natAbs : Int) = -x by omega, show (y.natAbs : Int) = -y by omega]; simp [hx, hy, Int.neg_mul_neg]
  · rw [show (x.natAbs : Int) = -x by omega, show (y.natAbs : Int) = y by omega]; simp [hx, hy, Int.neg_mul]
  · rw [show (x.natAbs : Int) = x by omega, show (y.natAbs : Int) = -y by omega]; simp [hx, hy, Int.mul_neg]
  · rw [show (x.natAbs : Int) = x by omega, show (y.natAbs : Int) = y by omega]; simp [hx, hy]
set_option maxHeartbeats 1600000 in
theorem mul {w : World} {p q s : Nat} {x y : Int} (hp : Blk w p) (hx : Z w q x) (hy : Z w s y) (h : bl x.natAbs + bl y.natAbs ≤ 536870912) (hpq : p ≠ q) (hps : p ≠ s) :
    Calls Try.prog 128 #[.pointer (some ⟨p, 0, none⟩), .pointer (some ⟨q, 0, none⟩), .pointer (some ⟨s, 0, none⟩)] w (Puts w p (x * y)) := by
  obtain ⟨A, c, k0, k1, hm, hq⟩ := Z.open hx
  obtain ⟨B, d, j0, j1, hn, hs⟩ := Z.open hy
  have hbl := bl_mul_le x.natAbs y.natAbs
  have hL := fun (W : World) (hb : Below w.heap.size w W) => (cMul (hm.below hb) (hn.below hb) (by omega)).mono fun e w' h => GivesMg.of hb h
  have hP := fun (w1 : World) (A' : Option Addr) (c' : Nat) h1 h2 => put_of (w1 := w1) (A := A') (c := c') (neg := decide (x < 0) != decide (y < 0)) (n := x.natAbs * y.natAbs) hp h1 h2 (by omega)
  rw [mul_sign] at hP
  have hK : ∀ w1, w.grownBy w1 (some p) → (w1.cell? ⟨q, 0, none⟩ = some (.bool (decide (x < 0))) ∧ w1.cell? ⟨q, 1, none⟩ = some (.slice A (D x.natAbs).length c) ∧ w1.cell? ⟨s, 0, none⟩ = some (.bool (decide (y < 0))) ∧ w1.cell? ⟨s, 1, none⟩ = some (.slice B (D y.natAbs).length d)) := fun w1 hg =>
    ⟨hg.cell k0 (by simp; omega), hg.cell k1 (by simp; omega), hg.cell j0 (by simp; omega), hg.cell j1 (by simp; omega)⟩
  have HL := Lib.hid hL
  have HP := Lib.hid hP
  have HK := Lib.hid hK
  clear hK hL hP h hbl hm hn hp hx hy hpq hps
  generalize hb1 : decide (x < 0) = b1 at *
  generalize hb2 : decide (y < 0) = b2 at *
  clear hb1 hb2
  go_enter Try.func128, Try.ntmps128
  go_wp2
  go_region_held3 (fun w' => w'.cell? ⟨q, 0, none⟩ = some (.bool b1) ∧ w'.cell? ⟨q, 1, none⟩ = some (.slice A (D x.natAbs).length c) ∧ w'.cell? ⟨s, 0, none⟩ = some (.bool b2) ∧ w'.cell? ⟨s, 1, none⟩ = some (.slice B (D y.natAbs).length d)) (go_keep)
    (first | (go_at_call 141; refine (HL.out _ (by first | exact Below.refl _ _ | exact (Below.refl _ _).drew)).mono ?_; rintro e w1 ⟨A', c', rfl, hm', hb'⟩; have HPM := Lib.hid (HP.out w1 A' c' hb' hm'); obtain ⟨a0, a1, a2, a3⟩ := HK.out w1 (grown_below hb' _); clear hm' hb') | (go_at_call 113; refine HPM.out.mono ?_; rintro e w2 ⟨rfl, hz2, hg2⟩; obtain ⟨b0, b3, b4, b5⟩ := HK.out w2 hg2; have HE := Lib.hid (show Puts w p (x * y) _ w2 from ⟨rfl, hz2, hg2⟩); clear hz2 hg2))
  all_goals go_wp2
  all_goals go_ret
  all_goals exact HE.out
end Go.Proofs.Ytjddhnjjeomfjaa.Mj
end
section
set_option linter.unusedVariables false
set_option linter.unusedSimpArgs false
namespace Go.Proofs.Ytjddhnjjeomfjaa.Mk
open Go.RowKit Go.Proofs.YtjddhnjjeomfjaaW.PrintWords Go.Proofs.Ytjddhnjjeomfjaa.PW Go.Proofs.Ytjddhnjjeomfjaa.Pc Go.Proofs.Ytjddhnjjeomfjaa.Ma Go.Proofs.Ytjddhnjjeomfjaa.Mb Go.Proofs.Ytjddhnjjeomfjaa.Mc Go.Proofs.Ytjddhnjjeomfjaa.Md Go.Proofs.Ytjddhnjjeomfjaa.Me Go.Proofs.Ytjddhnjjeomfjaa.Mi Go.Proofs.Ytjddhnjjeomfjaa.Mj Dg
open Pm (sgn)
def lw (n k : Nat) : Int := val 4294967296 (((D n).take 2).drop k)
theorem lw_zero (n : Nat) : lw n 0 = ((n % 18446744073709551616 : Nat) : Int) := by
  unfold lw
  rw [List.drop_zero]
  have := (val_div_mod (by decide) (D_dig n) 2).2
  rw [D_val] at this
  rw [← this]
  rfl
theorem lw_end (n k : Nat) (h : 2 ≤ k ∨ (D n).length ≤ k) : lw n k = 0 := by
  unfold lw
  rw [List.drop_of_length_le (by simp; omega)]
  rfl
theorem lw_bd (n k : Nat) (h : 0 < k) : 0 ≤ lw n k ∧ lw n k < 4294967296 := by
  unfold lw
  have hd := ((D_dig n).take 2).drop k
  have h1 := val_nonneg hd
  have h2 := val_lt (by decide) hd
  refine ⟨h1, ?_⟩
  have h3 : (((D n).take 2).drop k).length ≤ 1 := by simp; omega
  have h4 : ((4294967296 : Nat) : Int) ^ (((D n).take 2).drop k).length ≤ 4294967296 := by
    rcases Nat.lt_or_ge (((D n).take 2).drop k).length 1 with h | h
    · have : (((D n).take 2).drop k).length = 0 := by omega
      rw [this]; decide
    · have : (((D n).take 2).drop k).length = 1 := by omega
      rw [this]; decide
  omega
theorem lw_step (n k : Nat) (h : k < 2) (hk : k < (D n).length) : bits .or .u64 (IntKind.u64.wrap (lw n (k + 1) * 4294967296)) ((D n).getD k 0) = lw n k := by
  have hb := lw_bd n (k + 1) (by omega)
  have hd := (D_dig n).all0 (by decide) k
  have e : lw n k = (D n).getD k 0 + 4294967296 * lw n (k + 1) := by
    unfold lw
    have := val_drop' (B := 4294967296) ((D n).take 2) k
    rw [this]
    congr 1
    simp [List.getD, List.getElem?_take, h]
  rw [Pn.u64_id (by omega) (by omega), e]
  have := Po.or_high (x := (D n).getD k 0) (y := lw n (k + 1)) hd.1 (by omega) hb.1 hb.2
  rw [← this]
  obtain ⟨a, ha⟩ := Int.eq_ofNat_of_zero_le hd.1
  obtain ⟨b, hb'⟩ := Int.eq_ofNat_of_zero_le hb.1
  have hd2 : a < 4294967296 := by have := hd.2; omega
  have hb2 : b < 4294967296 := by have := hb.2; omega
  rw [ha, hb']
  have e2 : (b : Int) * 4294967296 = ((b * 4294967296 : Nat) : Int) := by simp
  have h1 : a < 2 ^ 64 := by omega
  have h2 : b * 4294967296 < 2 ^ 64 := by omega
  rw [e2, (bits_nat .u64 64 (by decide) Po.wraps_u64 _ _ h2 h1).2, (bits_nat .u64 64 (by decide) Po.wraps_u64 _ _ h1 h2).2, Nat.or_comm]
set_option maxHeartbeats 1600000 in
theorem low {w : World} {q : Nat} {z : Int} (hz : Z w q z) : Calls Try.prog 121 #[.pointer (some ⟨q, 0, none⟩)] w fun e w' => e = .returned (.int .u64 ((z.natAbs % 18446744073709551616 : Nat) : Int)) ∧ w = w' := by
  obtain ⟨A, c, k0, k1, hm, hq⟩ := Z.open hz
  have hres := lw_zero z.natAbs
  have hcell : ∀ k, k < (D z.natAbs).length → ∃ ad, A = some ad ∧ w.cell? (ad.add k) = some (.int .u32 ((D z.natAbs).getD k 0)) := fun k hk => by
    obtain ⟨ad, hA, hc⟩ := Kd.at_int hm.1 (k : Int) (by omega) (by omega)
    rw [Int.toNat_natCast, rdN] at hc
    exact ⟨ad, hA, hc⟩
  have hmax : (D z.natAbs).length ≤ 9223372036854775807 := hm.1.2.1
  have hst := fun k h1 h2 => lw_step z.natAbs k h1 h2
  have hen := fun k h => lw_end z.natAbs k h
  have hdd := (D_dig z.natAbs).all0 (by decide)
  have hlb := fun k h => lw_bd z.natAbs k h
  have HR := Lib.hid hres
  have HC := Lib.hid hcell
  have HS := Lib.hid hst
  have HE := Lib.hid hen
  have HD := Lib.hid hdd
  have HLB := Lib.hid hlb
  clear hres hcell hm hz hst hen hdd hlb
  generalize hln : (D z.natAbs).length = n at *
  clear hln
  obtain ⟨m, hm2, hmn, hmm⟩ : ∃ m : Nat, m ≤ 2 ∧ m ≤ n ∧ (2 ≤ m ∨ n ≤ m) := ⟨min n 2, by omega, by omega, by omega⟩
  have hst0 : lw z.natAbs m = 0 := HE.out m hmm
  have HST := Lib.hid hst0
  clear hst0
  by_cases hlt : n < 2
  · obtain rfl : n = m := by omega
    go_enter Try.func121, Try.ntmps121
    go_wp2_with fail
    go_loop [3, 4] (fun u i => ∃ k : Nat, k ≤ n ∧ i = .int .i64 ((k : Int) - 1) ∧ u = .int .u64 (lw z.natAbs k)) (fun _ i => (intOf i + 1).toNat)
    case atStart => exact ⟨n, Nat.le_refl _, rfl, by rw [HST.out]⟩
    case round =>
      obtain ⟨k, hk, rfl, rfl⟩ := hrel
      cases k with
      | zero =>
        have e : ((0 : Nat) : Int) - 1 = -1 := rfl
        rw [e]
        go_wp2
        go_ret
        exact ⟨by show Ending.returned (Value.int .u64 (lw z.natAbs 0)) = _; rw [HR.out]; simp, rfl⟩
      | succ k =>
        have e : ((k + 1 : Nat) : Int) - 1 = (k : Int) := by omega
        rw [e]
        clear e
        obtain ⟨ad, hA, hc⟩ := HC.out k (by omega)
        subst hA
        have hs := Lib.hid (HS.out k (by omega) (by omega))
        have hd := HD.out k
        have hb := HLB.out (k + 1) (by omega)
        have hx := Pn.u64_id (n := lw z.natAbs (k + 1) * 4294967296) (by omega) (by omega)
        have hs2 := hs.out
        rw [hx] at hs2
        have HS2 := Lib.hid hs2
        clear hs hs2 hx
        generalize hl1 : lw z.natAbs (k + 1) = l1 at *
        generalize hd1 : (D z.natAbs).getD k 0 = d1 at *
        clear hl1 hd1
        go_wp2
        go_round
        case rel => exact ⟨k, by omega, rfl, by rw [HS2.out]⟩
        case measure => (simp [intOf]) <;> omega
  · obtain rfl : m = 2 := by omega
    by_cases hn2 : n = 2
    · subst hn2
      go_enter Try.func121, Try.ntmps121
      go_wp2_with fail
      go_loop [3, 4] (fun u i => ∃ k : Nat, k ≤ 2 ∧ i = .int .i64 ((k : Int) - 1) ∧ u = .int .u64 (lw z.natAbs k)) (fun _ i => (intOf i + 1).toNat)
      case atStart => exact ⟨2, Nat.le_refl _, rfl, by rw [HST.out]⟩
      case round =>
        obtain ⟨k, hk, rfl, rfl⟩ := hrel
        cases k with
        | zero =>
          have e : ((0 : Nat) : Int) - 1 = -1 := rfl
          rw [e]
          go_wp2
          go_ret
          exact ⟨by show Ending.returned (Value.int .u64 (lw z.natAbs 0)) = _; rw [HR.out]; simp, rfl⟩
        | succ k =>
          have e : ((k + 1 : Nat) : Int) - 1 = (k : Int) := by omega
          rw [e]
          clear e
          obtain ⟨ad, hA, hc⟩ := HC.out k (by omega)
          subst hA
          have hs := Lib.hid (HS.out k (by omega) (by omega))
          have hd := HD.out k
          have hb := HLB.out (k + 1) (by omega)
          have hx := Pn.u64_id (n := lw z.natAbs (k + 1) * 4294967296) (by omega) (by omega)
          have hs2 := hs.out
          rw [hx] at hs2
          have HS2 := Lib.hid hs2
          clear hs hs2 hx
          generalize hl1 : lw z.natAbs (k + 1) = l1 at *
          generalize hd1 : (D z.natAbs).getD k 0 = d1 at *
          clear hl1 hd1
          go_wp2
          go_round
          case rel => exact ⟨k, by omega, rfl, by rw [HS2.out]⟩
          case measure => (simp [intOf]) <;> omega

    · have hn3 : 2 < n := by omega
      clear hlt
      go_enter Try.func121, Try.ntmps121
      go_wp2_with fail
      go_loop [3, 4] (fun u i => ∃ k : Nat, k ≤ 2 ∧ i = .int .i64 ((k : Int) - 1) ∧ u = .int .u64 (lw z.natAbs k)) (fun _ i => (intOf i + 1).toNat)
      case atStart => exact ⟨2, Nat.le_refl _, rfl, by rw [HST.out]⟩
      case round =>
        obtain ⟨k, hk, rfl, rfl⟩ := hrel
        cases k with
        | zero =>
          have e : ((0 : Nat) : Int) - 1 = -1 := rfl
          rw [e]
          go_wp2
          go_ret
          exact ⟨by show Ending.returned (Value.int .u64 (lw z.natAbs 0)) = _; rw [HR.out]; simp, rfl⟩
        | succ k =>
          have e : ((k + 1 : Nat) : Int) - 1 = (k : Int) := by omega
          rw [e]
          clear e
          obtain ⟨ad, hA, hc⟩ := HC.out k (by omega)
          subst hA
          have hs := Lib.hid (HS.out k (by omega) (by omega))
          have hd := HD.out k
          have hb := HLB.out (k + 1) (by omega)
          have hx := Pn.u64_id (n := lw z.natAbs (k + 1) * 4294967296) (by omega) (by omega)
          have hs2 := hs.out
          rw [hx] at hs2
          have HS2 := Lib.hid hs2
          clear hs hs2 hx
          generalize hl1 : lw z.natAbs (k + 1) = l1 at *
          generalize hd1 : (D z.natAbs).getD k 0 = d1 at *
          clear hl1 hd1
          go_wp2
          go_round
          case rel => exact ⟨k, by omega, rfl, by rw [HS2.out]⟩
          case measure => (simp [intOf]) <;> omega
theorem natAbs_mod {z : Int} (h0 : -9223372036854775808 ≤ z) (h1 : z ≤ 9223372036854775807) : ((z.natAbs % 18446744073709551616 : Nat) : Int) = z.natAbs := by omega
set_option maxHeartbeats 800000 in
theorem int64 {w : World} {q : Nat} {z : Int} (hz : Z w q z) (h0 : -9223372036854775808 ≤ z) (h1 : z ≤ 9223372036854775807) : Calls Try.prog 76 #[.pointer (some ⟨q, 0, none⟩)] w fun e w' => e = .returned (.int .i64 z) ∧ w = w' := by
  obtain ⟨A, c, k0, k1, hm, hq⟩ := Z.open hz
  have hl := low hz
  rw [natAbs_mod h0 h1] at hl
  have HL := Lib.hid hl
  clear hl hm hz
  by_cases hn : z < 0
  · have e : IntKind.i64.wrap (-(IntKind.i64.wrap (z.natAbs : Int))) = z := by rw [IntKind.wrap_i64, IntKind.wrap_i64]; omega
    have e2 : wrap64 (-(wrap64 (z.natAbs : Int))) = z := by unfold wrap64; omega
    rw [show decide (z < 0) = true by simpa using hn] at k0
    have E := Lib.hid e2
    clear e e2 h0 h1 hn
    generalize (z.natAbs : Int) = a at *
    go_enter Try.func76, Try.ntmps76
    go_wp2_with fail
    refine HL.out.mono ?_
    rintro e w1 ⟨rfl, rfl⟩
    go_wp2
    go_ret
    exact ⟨by rw [← E.out]; rfl, rfl⟩
  · have e2 : wrap64 (z.natAbs : Int) = z := by unfold wrap64; omega
    rw [show decide (z < 0) = false by simpa using hn] at k0
    have E := Lib.hid e2
    clear e2 h0 h1 hn
    generalize (z.natAbs : Int) = a at *
    go_enter Try.func76, Try.ntmps76
    go_wp2_with fail
    refine HL.out.mono ?_
    rintro e w1 ⟨rfl, rfl⟩
    go_wp2
    go_ret
    exact ⟨by rw [← E.out]; rfl, rfl⟩
theorem D_one : D 1 = [1] := by
  have := D_of (l := [1]) (Dig.cons (by decide) (by decide) Dig.nil) (by intro _ h; simp at h)
  exact this
theorem Mg_one {w : World} : Mg (w.alloc (.cells #[.int .u32 1] 119)) (some ⟨w.heap.size, 0, none⟩) 1 (D 1) := by
  rw [D_one]
  exact Mg.row (xs := [1]) (heap_alloc_new w _) rfl (by simp)
theorem shr_neg {z : Int} (hz : z < 0) (n : Nat) : -(((z.natAbs - 1) / 2 ^ n + 1 : Nat) : Int) = z / 2 ^ n := by
  obtain ⟨m, hm⟩ : ∃ m : Nat, z = Int.negSucc m := ⟨z.natAbs - 1, by omega⟩
  subst hm
  have e : ((2 : Int) ^ n) = ((2 ^ n : Nat) : Int) := by simp
  rw [Int.negSucc_ediv _ (by rw [e]; have := Nat.two_pow_pos n; omega), e]
  show -(((m + 1 - 1) / 2 ^ n + 1 : Nat) : Int) = _
  rw [Nat.add_sub_cancel]
  rfl
theorem shr_pos {z : Int} (hz : ¬ z < 0) (n : Nat) : ((z.natAbs / 2 ^ n : Nat) : Int) = z / 2 ^ n := by
  have e : ((2 : Int) ^ n) = ((2 ^ n : Nat) : Int) := by simp
  obtain ⟨m, rfl⟩ := Int.eq_ofNat_of_zero_le (show 0 ≤ z by omega)
  rw [e, Int.natAbs_natCast]
  rfl
set_option maxHeartbeats 1600000 in
theorem rsh {w : World} {p q : Nat} {z : Int} {n : Nat} (hp : Blk w p) (hz : Z w q z) (h1 : bl z.natAbs ≤ 268435456) (h2 : n ≤ 268435456) :
    Calls Try.prog 70 #[.pointer (some ⟨p, 0, none⟩), .pointer (some ⟨q, 0, none⟩), .int .u64 n] w (Puts w p (z / 2 ^ n)) := by
  obtain ⟨A, c, k0, k1, hm, hq⟩ := Z.open hz
  by_cases hn : z < 0
  · have b1 := bl_mono (Nat.sub_le z.natAbs 1)
    have b2 := bl_mono (Nat.div_le_self (z.natAbs - 1) (2 ^ n))
    have b3 := bl_add_le ((z.natAbs - 1) / 2 ^ n) 1
    have b4 : bl 1 = 1 := rfl
    have hS := fun (W : World) (hb : Below w.heap.size w W) => (cSub ((hm.below hb).below (below_alloc W _)) (Mg_one (w := W)) (by omega) (by omega)).mono fun e w' h => GivesMg.of (below_then hb (below_alloc W _)) h
    have hR := fun (W : World) (A' : Option Addr) (c' : Nat) (hb : Below w.heap.size w W) (hm' : Mg W A' c' (D (z.natAbs - 1))) => (cRight hm' (n := n) (by omega) (by omega)).mono fun e w' h => GivesMg.of hb h
    have hA := fun (W : World) (A' : Option Addr) (c' : Nat) (hb : Below w.heap.size w W) (hm' : Mg W A' c' (D ((z.natAbs - 1) / 2 ^ n))) => (cAdd (hm'.below (below_alloc W _)) (Mg_one (w := W)) (by omega) (by omega)).mono fun e w' h => GivesMg.of (below_then hb (below_alloc W _)) h
    have hP := fun (w1 : World) (A' : Option Addr) (c' : Nat) h1 h2 => put_of (w1 := w1) (A := A') (c := c') (neg := true) (n := (z.natAbs - 1) / 2 ^ n + 1) hp h1 h2 (by omega)
    simp only [if_true] at hP
    rw [shr_neg hn] at hP
    rw [show decide (z < 0) = true by simpa using hn] at k0
    have l1 : (D 1).length = 1 := by rw [D_one]; rfl
    rw [l1] at hS hA
    have HS := Lib.hid hS
    have HR := Lib.hid hR
    have HA := Lib.hid hA
    have HP := Lib.hid hP
    clear hS hR hA hP b1 b2 b3 b4 h1 h2 hm hp hz hn l1
    go_enter Try.func70, Try.ntmps70
    go_wp2_with fail
    refine (HS.out _ (Below.refl _ _)).mono ?_
    rintro e w1 ⟨A1, c1, rfl, hm1, hb1⟩
    have HR1 := Lib.hid (HR.out w1 A1 c1 hb1 hm1)
    clear hm1 hb1
    go_wp2_with fail
    refine HR1.out.mono ?_
    rintro e w2 ⟨A2, c2, rfl, hm2, hb2⟩
    have HA1 := Lib.hid (HA.out w2 A2 c2 hb2 hm2)
    clear hm2 hb2
    go_wp2_with fail
    refine HA1.out.mono ?_
    rintro e w3 ⟨A3, c3, rfl, hm3, hb3⟩
    have HP1 := Lib.hid (HP.out w3 A3 c3 hb3 hm3)
    clear hm3 hb3
    go_wp2_with fail
    refine HP1.out.mono ?_
    rintro e w4 ⟨rfl, hz2, hg2⟩
    have HE := Lib.hid (show Puts w p (z / 2 ^ n) _ w4 from ⟨rfl, hz2, hg2⟩)
    clear hz2 hg2
    go_wp2
    go_ret
    exact HE.out
  · have b2 := bl_mono (Nat.div_le_self z.natAbs (2 ^ n))
    have hR := fun (W : World) (hb : Below w.heap.size w W) => (cRight (hm.below hb) (n := n) (by omega) (by omega)).mono fun e w' h => GivesMg.of hb h
    have hP := fun (w1 : World) (A' : Option Addr) (c' : Nat) h1 h2 => put_of (w1 := w1) (A := A') (c := c') (neg := false) (n := z.natAbs / 2 ^ n) hp h1 h2 (by omega)
    simp only [Bool.false_eq_true, if_false] at hP
    rw [shr_pos hn] at hP
    rw [show decide (z < 0) = false by simpa using hn] at k0
    have HR := Lib.hid hR
    have HP := Lib.hid hP
    clear hR hP b2 h1 h2 hm hp hz hn
    go_enter Try.func70, Try.ntmps70
    go_wp2_with fail
    refine (HR.out _ (Below.refl _ _)).mono ?_
    rintro e w1 ⟨A1, c1, rfl, hm1, hb1⟩
    have HP1 := Lib.hid (HP.out w1 A1 c1 hb1 hm1)
    clear hm1 hb1
    go_wp2_with fail
    refine HP1.out.mono ?_
    rintro e w4 ⟨rfl, hz2, hg2⟩
    have HE := Lib.hid (show Puts w p (z / 2 ^ n) _ w4 from ⟨rfl, hz2, hg2⟩)
    clear hz2 hg2
    go_wp2
    go_ret
    exact HE.out
end Go.Proofs.Ytjddhnjjeomfjaa.Mk
end
section
namespace Go.Proofs.Ytjddhnjjeomfjaa.Ml
end Go.Proofs.Ytjddhnjjeomfjaa.Ml
end
section
set_option linter.unusedVariables false
set_option linter.unusedSimpArgs false
namespace Go.Proofs.Ytjddhnjjeomfjaa.Mn
open Go.RowKit Go.Proofs.YtjddhnjjeomfjaaW.PrintWords Go.Proofs.YtjddhnjjeomfjaaW.PrintLast Go.Proofs.YtjddhnjjeomfjaaW.PrintMore Go.Proofs.Ytjddhnjjeomfjaa.PW Go.Proofs.Ytjddhnjjeomfjaa.Pc Go.Proofs.Ytjddhnjjeomfjaa.Ma Go.Proofs.Ytjddhnjjeomfjaa.Mb Go.Proofs.Ytjddhnjjeomfjaa.Mc Go.Proofs.Ytjddhnjjeomfjaa.Md Go.Proofs.Ytjddhnjjeomfjaa.Me Go.Proofs.Ytjddhnjjeomfjaa.Mi Go.Proofs.Ytjddhnjjeomfjaa.Mj Go.Proofs.Ytjddhnjjeomfjaa.Mk Go.Proofs.Ytjddhnjjeomfjaa.Ml Dg
open Pm (sgn)
def ZF (w : World) (p : Nat) (z : Int) (v : Value) : Prop :=
  ∃ A c, w.heap[p]? = some (.cells #[.bool (decide (z < 0)), .slice A (D z.natAbs).length c] 89 (0, 0)) ∧ Mg w A c (D z.natAbs) ∧ ∀ ad, A = some ad → 0 < (D z.natAbs).length → some ad.block ≠ v.ownBlock
section
variable {w w1 : World} {p : Nat} {n : Int} {v v1 : Value}
theorem ZF.zz (h : ZF w p n v) : Z w p n := by
  obtain ⟨A, c, hb, hm, _⟩ := h
  exact ⟨A, c, hb, hm⟩
theorem ZF.of (h : Z w p n) : ZF w p n (.slice none 0 0) := by
  obtain ⟨A, c, hb, hm⟩ := h
  exact ⟨A, c, hb, hm, fun ad _ _ e => by simp [Value.ownBlock] at e⟩
theorem ZF.below (h : ZF w p n v) (hb : Below w.heap.size w w1) : ZF w1 p n v := by
  obtain ⟨A, c, h1, hm, hv⟩ := h
  exact ⟨A, c, (hb.block p (Array.getElem?_eq_some_iff.1 h1).1).trans h1, hm.below hb, hv⟩
theorem ZF.grown {q : Nat} (h : ZF w p n v) (hg : w.grownBy w1 (some q)) (hq : Blk w q) (hne : p ≠ q) : ZF w1 p n v := by
  obtain ⟨A, c, hb, hm, hv⟩ := h
  exact ⟨A, c, (hg.block p (Array.getElem?_eq_some_iff.1 hb).1 (by simpa using hne)).trans hb, hm.grown hg hq, hv⟩
theorem add_block (a : Addr) (k : Nat) : (a.add k).block = a.block := by
  unfold Addr.add
  split <;> rfl
theorem Mg.kept_at {A : Option Addr} {c : Nat} {xs : List Int} (h : Mg w A c xs) (hk : ∀ ad, A = some ad → 0 < xs.length → w1.heap[ad.block]? = w.heap[ad.block]?) : Mg w1 A c xs := by
  refine ⟨?_, h.2⟩
  obtain ⟨h1, h2, h3⟩ := h.1
  refine ⟨h1, h2, fun hn => ?_⟩
  obtain ⟨ad, hA, hc⟩ := h3 hn
  refine ⟨ad, hA, fun j p hp => ?_⟩
  obtain ⟨cs, hs, hR, hcell⟩ := hc j p hp
  refine ⟨cs, hs, hR, fun i u hu => ?_⟩
  rw [← hcell i u hu]
  exact World.cell?_of_block (w := w) (w' := w1) (a := ad.add (j * (Kd.int IntKind.u32).sz + i)) (by rw [add_block]; exact hk ad hA hn)
theorem Mg.lt {A : Option Addr} {c : Nat} {xs : List Int} (h : Mg w A c xs) (ad : Addr) (hA : A = some ad) (hn : 0 < xs.length) : ad.block < w.heap.size := by
  subst hA
  exact Kd.C_lt h.1 hn (by decide)
theorem ZF.after (h : ZF w p n v) (hpv : some p ≠ v.ownBlock) (hg : w.grownBy w1 v.ownBlock) (hat : v1.ownBlock = v.ownBlock ∨ ∃ b, v1.ownBlock = some b ∧ w.heap.size ≤ b) : ZF w1 p n v1 := by
  obtain ⟨A, c, hb, hm, hv⟩ := h
  refine ⟨A, c, (hg.block p (Array.getElem?_eq_some_iff.1 hb).1 hpv).trans hb, Mg.kept_at hm fun ad hA hn => hg.block _ (Mn.Mg.lt hm ad hA hn) (hv ad hA hn), fun ad hA hn => ?_⟩
  rcases hat with e | ⟨b, e, hle⟩
  · rw [e]; exact hv ad hA hn
  · rw [e]
    intro e2
    injection e2 with e2
    have := Mn.Mg.lt hm ad hA hn
    omega
theorem ZF.store {gw : Nat} {cs : Array Value} (h : ZF w p n v) (hw : w.heap[gw]? = some (.cells cs 31 (0, 0))) (hc : cs.size = 2) (h0 : ∀ x, cs[0]? ≠ some (.int .u32 x)) (h1 : ∀ x, cs[1]? ≠ some (.int .u32 x)) (i : Nat) (u : Value) : ZF (w.setCell ⟨gw, i, none⟩ u) p n v := by
  obtain ⟨A, c, hb, hm, hv⟩ := h
  have hne : p ≠ gw := by
    rintro rfl
    rw [hb] at hw
    injection hw with hw
    injection hw with _ hw
    exact absurd hw (by decide)
  refine ⟨A, c, (Below.heap_setCell _ _ _ _ hne).trans hb, Mg.kept_at hm fun ad hA hn => Below.heap_setCell _ _ _ _ ?_, hv⟩
  intro e
  have e : ad.block = gw := e
  obtain ⟨ad', hA', hc'⟩ := hm.1.2.2 hn
  rw [hA] at hA'
  injection hA' with hA'
  subst hA'
  obtain ⟨cs', hs, hR, hcell⟩ := hc' 0 _ (List.getElem?_eq_getElem hn)
  have hR' : cs' = [.int .u32 (D n.natAbs)[0]] := hR
  subst hR'
  have h4 := hcell 0 _ rfl
  rw [← e] at hw
  simp only [World.cell?, add_block, hw] at h4
  split at h4
  · cases h4
  · generalize (ad.add (0 * (Kd.int IntKind.u32).sz + 0)).off = o at h4
    match o, h4 with
    | 0, h4 => exact h0 _ h4
    | 1, h4 => exact h1 _ h4
    | n + 2, h4 =>
      rw [Array.getElem?_eq_none (by omega)] at h4
      cases h4
end
def PutsF (N : Nat) (w : World) (p : Nat) (z : Int) (e : Ending) (w' : World) : Prop :=
  Puts w p z e w' ∧ ∀ A n c, w'.cell? ⟨p, 1, none⟩ = some (.slice A n c) → ∀ ad, A = some ad → 0 < n → N ≤ ad.block
def St (w wr : World) (gw gr gm : Nat) (s : Int) (m k : Nat) (v : Value) (pre : List Int) : Prop :=
  wr.heap[gw]? = some (.cells #[.int .i64 s, v] 31 (0, 0)) ∧ Kd.R (Kd.int .i64) 2 wr w.heap.size (fun _ => True) v pre ∧ ZF wr gr (k : Int) v ∧ ZF wr gm 16777215 v ∧ Below w.heap.size w wr ∧ pre ++ L k = L m
section
variable {w wr w1 : World} {gw gr gm m k : Nat} {s : Int} {v v1 : Value} {pre : List Int}
theorem St.cell (h : St w wr gw gr gm s m k v pre) : wr.cell? ⟨gw, 1, none⟩ = some v := blk_cell h.1 1
theorem St.lt (h : St w wr gw gr gm s m k v pre) : gw < wr.heap.size := by
  have := h.1
  rw [Array.getElem?_eq_some_iff] at this
  exact this.1
theorem St.below (h : St w wr gw gr gm s m k v pre) (hb : Below wr.heap.size wr w1) : St w w1 gw gr gm s m k v pre :=
  ⟨(hb.block gw h.lt).trans h.1, Kd.R_below h.2.1 hb, h.2.2.1.below hb, h.2.2.2.1.below hb, below_then h.2.2.2.2.1 hb, h.2.2.2.2.2⟩
theorem ne_types {g p : Nat} {cs : Array Value} {t : TypeId} (h : wr.heap[g]? = some (.cells cs t (0, 0))) (hp : Blk wr p) (ht : t ≠ 89) : g ≠ p := by
  rintro rfl
  obtain ⟨b, A, n, c, hc⟩ := hp
  rw [h] at hc
  injection hc with hc
  injection hc with _ hc
  exact ht hc
theorem St.rest {k' : Nat} {e : Ending} (h : St w wr gw gr gm s m k v pre) (hp : PutsF wr.heap.size wr gr (k' : Int) e w1) (hne : gm ≠ gr) (hgr : w.heap.size ≤ gr) (he : pre ++ L k' = L m) : St w w1 gw gr gm s m k' v pre := by
  obtain ⟨⟨_, hz, hg⟩, hf⟩ := hp
  have hb := h.2.2.1.zz.blk
  refine ⟨(hg.block gw h.lt (by have := ne_types h.1 hb (by decide); simpa using this)).trans h.1, ?_, ?_, h.2.2.2.1.grown hg hb hne, below_grown h.2.2.2.2.1 hg hgr, he⟩
  · obtain ⟨b, A, n, c, hc⟩ := hb
    exact Kd.R_mono (Kd.R_grown (Kd.R_types h.2.1 hc (by decide)) hg (fun k hk => by have := hk.2; simpa using this)) (fun _ hk => hk.1)
  · obtain ⟨A, c, hzb, hm⟩ := hz
    refine ⟨A, c, hzb, hm, fun ad hA hn ho => ?_⟩
    have h1 := hf _ _ _ (blk_cell hzb 1) ad hA hn
    have h2 := Kd.R_lt h.2.1 _ ho.symm
    omega
theorem St.put {wr1 : World} {p : Int} {k' : Nat} (h : St w wr gw gr gm s m k v pre) (ho : Kd.R (Kd.int .i64) 2 wr1 w.heap.size (fun _ => True) v1 (pre ++ [p])) (hg : wr.grownBy wr1 v.ownBlock) (hat : v1.ownBlock = v.ownBlock ∨ ∃ b, v1.ownBlock = some b ∧ wr.heap.size ≤ b) (hb : Below w.heap.size w wr1) (hgw : w.heap.size ≤ gw) :
    wr1.frozen? ⟨gw, 1, none⟩ = false ∧ (wr1.setCell ⟨gw, 1, none⟩ v1).heap[gw]? = some (.cells #[.int .i64 s, v1] 31 (0, 0)) ∧ Kd.R (Kd.int .i64) 2 (wr1.setCell ⟨gw, 1, none⟩ v1) w.heap.size (fun _ => True) v1 (pre ++ [p]) ∧ ZF (wr1.setCell ⟨gw, 1, none⟩ v1) gr (k : Int) v1 ∧ ZF (wr1.setCell ⟨gw, 1, none⟩ v1) gm 16777215 v1 ∧ Below w.heap.size w (wr1.setCell ⟨gw, 1, none⟩ v1) := by
  have hgw1 : wr1.heap[gw]? = some (.cells #[.int .i64 s, v] 31 (0, 0)) := (hg.block gw h.lt (Kd.R_ne h.2.1 h.1 (by decide))).trans h.1
  obtain ⟨A, c, hv⟩ := Kd.R_slice h.2.1
  refine ⟨blk_frozen hgw1 1, blk_set hgw1 1 v1, Kd.R_set ho hgw1 (by decide) 1 v1, ?_, ?_, hb.setCell hgw _⟩
  · obtain ⟨b, B, n, d, hc⟩ := h.2.2.1.zz.blk
    exact (h.2.2.1.after (Kd.R_ne h.2.1 hc (by decide)) hg hat).store hgw1 rfl (by simp) (by subst hv; simp) 1 v1
  · obtain ⟨b, B, n, d, hc⟩ := h.2.2.2.1.zz.blk
    exact (h.2.2.2.1.after (Kd.R_ne h.2.1 hc (by decide)) hg hat).store hgw1 rfl (by simp) (by subst hv; simp) 1 v1
def Sr (w wr : World) (gw gr gm : Nat) (s : Int) (m k : Nat) (v : Value) (pre : List Int) : Prop :=
  St w wr gw gr gm s m k v pre ∧ wr.heap[w.heap.size]? = some (.cells #[.int .i64 0, .slice none 0 0] 31 (0, 0))
theorem Sr.lt (h : Sr w wr gw gr gm s m k v pre) : w.heap.size < wr.heap.size := (Array.getElem?_eq_some_iff.1 h.2).1
theorem Sr.below (h : Sr w wr gw gr gm s m k v pre) (hb : Below wr.heap.size wr w1) : Sr w w1 gw gr gm s m k v pre :=
  ⟨h.1.below hb, (hb.block _ h.lt).trans h.2⟩
theorem Sr.rest {k' : Nat} {e : Ending} (h : Sr w wr gw gr gm s m k v pre) (hp : PutsF wr.heap.size wr gr (k' : Int) e w1) (hne : gm ≠ gr) (hgr : w.heap.size < gr) (he : pre ++ L k' = L m) : Sr w w1 gw gr gm s m k' v pre :=
  ⟨h.1.rest hp hne (by omega) he, (hp.1.2.2.block _ h.lt (by simp; omega)).trans h.2⟩
def Sm (w wr : World) (gw gr gm : Nat) (s : Int) (k : Nat) (v : Value) (pre : List Int) : Prop :=
  wr.heap[gw]? = some (.cells #[.int .i64 s, v] 31 (0, 0)) ∧ Kd.R (Kd.int .i64) 2 wr w.heap.size (fun _ => True) v pre ∧ ZF wr gr (k : Int) v ∧ ZF wr gm 16777215 v ∧ Below w.heap.size w wr ∧ wr.heap[w.heap.size]? = some (.cells #[.int .i64 0, .slice none 0 0] 31 (0, 0))
theorem Sr.put {wr1 : World} {p : Int} (h : Sr w wr gw gr gm s m k v pre) (ho : Kd.R (Kd.int .i64) 2 wr1 w.heap.size (fun _ => True) v1 (pre ++ [p])) (hg : wr.grownBy wr1 v.ownBlock) (hat : v1.ownBlock = v.ownBlock ∨ ∃ b, v1.ownBlock = some b ∧ wr.heap.size ≤ b) (hb : Below w.heap.size w wr1) (hgw : w.heap.size < gw) :
    wr1.frozen? ⟨gw, 1, none⟩ = false ∧ (∃ u, wr1.cell? ⟨gw, 1, none⟩ = some u) ∧ Sm w (wr1.setCell ⟨gw, 1, none⟩ v1) gw gr gm s k v1 (pre ++ [p]) := by
  obtain ⟨h1, h2, h3, h4, h5, h6⟩ := h.1.put (k' := 0) ho hg hat hb (by omega)
  refine ⟨h1, ?_, h2, h3, h4, h5, h6, ?_⟩
  · have hgw1 : wr1.heap[gw]? = some (.cells #[.int .i64 s, v] 31 (0, 0)) := (hg.block gw h.1.lt (Kd.R_ne h.1.2.1 h.1.1 (by decide))).trans h.1.1
    exact ⟨_, blk_cell hgw1 1⟩
  · refine (Below.heap_setCell _ _ _ _ (by show w.heap.size ≠ gw; omega)).trans ?_
    exact (hg.block _ h.lt (Kd.R_ne h.1.2.1 h.2 (by decide))).trans h.2
theorem Sm.rest {k' : Nat} {e : Ending} (h : Sm w wr gw gr gm s k v pre) (hp : PutsF wr.heap.size wr gr (k' : Int) e w1) (hne : gm ≠ gr) (hgr : w.heap.size < gr) (he : pre ++ L k' = L m) : Sr w w1 gw gr gm s m k' v pre := by
  obtain ⟨h2, h3, h4, h5, h6, h7⟩ := h
  have hlt : w.heap.size < wr.heap.size := (Array.getElem?_eq_some_iff.1 h7).1
  have hltg : gw < wr.heap.size := (Array.getElem?_eq_some_iff.1 h2).1
  obtain ⟨⟨_, hz, hg⟩, hf⟩ := hp
  have hb := h4.zz.blk
  refine ⟨⟨(hg.block gw hltg (by have := ne_types h2 hb (by decide); simpa using this)).trans h2, ?_, ?_, h5.grown hg hb hne, below_grown h6 hg (by omega), he⟩, (hg.block _ hlt (by simp; omega)).trans h7⟩
  · obtain ⟨b, A, n, c, hc⟩ := hb
    exact Kd.R_mono (Kd.R_grown (Kd.R_types h3 hc (by decide)) hg (fun k hk => by have := hk.2; simpa using this)) (fun _ hk => hk.1)
  · obtain ⟨A, c, hzb, hm⟩ := hz
    refine ⟨A, c, hzb, hm, fun ad hA hn ho => ?_⟩
    have h1 := hf _ _ _ (blk_cell hzb 1) ad hA hn
    have h2 := Kd.R_lt h3 _ ho.symm
    omega
end
end Go.Proofs.Ytjddhnjjeomfjaa.Mn
end
section
namespace Go.Proofs.Ytjddhnjjeomfjaa.Mo
end Go.Proofs.Ytjddhnjjeomfjaa.Mo
end
section
namespace Go.Proofs.Ytjddhnjjeomfjaa.Mq
end Go.Proofs.Ytjddhnjjeomfjaa.Mq
end
section
set_option linter.unusedVariables false
set_option linter.unusedSimpArgs false
namespace Go.Proofs.Ytjddhnjjeomfjaa.Mr
open Go.RowKit Go.Proofs.YtjddhnjjeomfjaaW.PrintWords Go.Proofs.Ytjddhnjjeomfjaa.PW Go.Proofs.Ytjddhnjjeomfjaa.Pc Go.Proofs.Ytjddhnjjeomfjaa.Pb Go.Proofs.Ytjddhnjjeomfjaa.Pw Go.Proofs.Ytjddhnjjeomfjaa.Ma Go.Proofs.Ytjddhnjjeomfjaa.Mb Go.Proofs.Ytjddhnjjeomfjaa.Mc Go.Proofs.Ytjddhnjjeomfjaa.Md Go.Proofs.Ytjddhnjjeomfjaa.Me Go.Proofs.Ytjddhnjjeomfjaa.Mg Go.Proofs.Ytjddhnjjeomfjaa.Mh Go.Proofs.Ytjddhnjjeomfjaa.Mq Dg
def both (s0 : Int) (l0 : List Int) (s1 : Int) (l1 : List Int) (z : Int) : Int × List Int × Int := if isW s0 l0 = true ∧ isW s1 l1 = true then fit z else (0, [], 1)
end Go.Proofs.Ytjddhnjjeomfjaa.Mr
end
section
set_option linter.unusedVariables false
set_option linter.unusedSimpArgs false
namespace Go.Proofs.Ytjddhnjjeomfjaa.Mu
open Go.RowKit Go.Proofs.YtjddhnjjeomfjaaW.PrintWords Go.Proofs.Ytjddhnjjeomfjaa.PW Go.Proofs.Ytjddhnjjeomfjaa.Pc Go.Proofs.Ytjddhnjjeomfjaa.Pb Go.Proofs.Ytjddhnjjeomfjaa.Pw Go.Proofs.Ytjddhnjjeomfjaa.Ma Go.Proofs.Ytjddhnjjeomfjaa.Mb Go.Proofs.Ytjddhnjjeomfjaa.Mc Go.Proofs.Ytjddhnjjeomfjaa.Md Go.Proofs.Ytjddhnjjeomfjaa.Me Go.Proofs.Ytjddhnjjeomfjaa.Mg Go.Proofs.Ytjddhnjjeomfjaa.Mh Go.Proofs.Ytjddhnjjeomfjaa.Mq Go.Proofs.Ytjddhnjjeomfjaa.Mr Dg
theorem bl_add_natAbs (x y : Int) : bl (x + y).natAbs ≤ max (bl x.natAbs) (bl y.natAbs) + 1 :=
  Nat.le_trans (bl_mono (Int.natAbs_add_le x y)) (bl_add_le _ _)
theorem alloc_size (w : World) (o : Obj) : (w.alloc o).heap.size = w.heap.size + 1 := by simp
theorem below_put {B q : Nat} {w w1 w2 : World} (h : Below B w w1) (k : w1.grownBy w2 (some q)) (hq : B ≤ q) (hw1 : B ≤ w1.heap.size) : Below B w w2 :=
  h.trans ⟨k.os, k.tape, k.output, k.size, fun i hi => k.block i (Nat.lt_of_lt_of_le hi hw1) (by simp; omega)⟩
end Go.Proofs.Ytjddhnjjeomfjaa.Mu
end
section
set_option linter.unusedVariables false
namespace Go.Proofs.Ytjddhnjjeomfjaa.Re
open Go.RowKit Go.Proofs.Ytjddhnjjeomfjaa.Pm Go.Proofs.Ytjddhnjjeomfjaa.Mu Go.Proofs.Ytjddhnjjeomfjaa.Ve Dg Fp
def rq (long : Nat) (e : Int) : Int := if (long : Int) + e - 24 < -149 then -149 else (long : Int) + e - 24
def ups (mode s : Int) (t r h : Nat) : Bool :=
  if mode = 0 then decide (h < r ∨ r = h ∧ t % 2 = 1) else if mode = 1 then decide (s < 0) else if mode = 2 then decide (0 < s) else decide (mode = 4)
def rt (z e mode : Int) : Nat × Int :=
  if rq (bl z.natAbs) e ≤ e then (z.natAbs * 2 ^ (e - rq (bl z.natAbs) e).toNat, 0)
  else if z.natAbs % 2 ^ (rq (bl z.natAbs) e - e).toNat = 0 then (z.natAbs / 2 ^ (rq (bl z.natAbs) e - e).toNat, 0)
  else (z.natAbs / 2 ^ (rq (bl z.natAbs) e - e).toNat + (if ups mode (sgn z) (z.natAbs / 2 ^ (rq (bl z.natAbs) e - e).toNat) (z.natAbs % 2 ^ (rq (bl z.natAbs) e - e).toNat) (2 ^ ((rq (bl z.natAbs) e - e).toNat - 1)) = true then 1 else 0), if (bl z.natAbs : Int) + e ≤ -126 then 3 else 1)
def rnd (z e mode : Int) : Nat × Int :=
  if z = 0 then (0, 0)
  else if 128 < (bl z.natAbs : Int) + e then (ovr (sgn z) mode, 5)
  else if 128 < (bl (rt z e mode).1 : Int) + rq (bl z.natAbs) e then (ovr (sgn z) mode, 5)
  else (Ieee.single.nearest (decide (z < 0)) (rt z e mode).1 (rq (bl z.natAbs) e), (rt z e mode).2)
end Go.Proofs.Ytjddhnjjeomfjaa.Re
end
section
set_option linter.unusedVariables false
set_option linter.unusedSimpArgs false
namespace Go.Proofs.Ytjddhnjjeomfjaa.Rf
open Go.RowKit Go.Proofs.Ytjddhnjjeomfjaa.Pm Go.Proofs.Ytjddhnjjeomfjaa.Mu Go.Proofs.Ytjddhnjjeomfjaa.Ve Go.Proofs.Ytjddhnjjeomfjaa.Re Go.Proofs.Ytjddhnjjeomfjaa.We Dg Fp
theorem rq_shift {n : Nat} (j : Nat) (e : Int) (h : n ≠ 0) : rq (bl (n * 2 ^ j)) e = rq (bl n) (e + j) := by
  rw [bl_shift h]
  unfold rq
  rw [show ((bl n + j : Nat) : Int) + e - 24 = (bl n : Int) + (e + j) - 24 by omega]
theorem natAbs_two (z : Int) (j : Nat) : (z * 2 ^ j).natAbs = z.natAbs * 2 ^ j := by
  rw [Int.natAbs_mul, show ((2 : Int) ^ j).natAbs = 2 ^ j by rw [Int.natAbs_pow]; rfl]
theorem two_zpos (j : Nat) : (0 : Int) < 2 ^ j := Int.pow_pos (by decide)
theorem mul_two_neg (z : Int) (j : Nat) : z * 2 ^ j < 0 ↔ z < 0 := by
  have h := two_zpos j
  constructor
  · intro h1
    rcases Int.lt_or_le z 0 with h2 | h2
    · exact h2
    · have := Int.mul_nonneg h2 (Int.le_of_lt h); omega
  · intro h1
    exact Int.mul_neg_of_neg_of_pos h1 h
theorem mul_two_zero (z : Int) (j : Nat) : z * 2 ^ j = 0 ↔ z = 0 := by
  have h := two_zpos j
  constructor
  · intro h1
    rcases Int.mul_eq_zero.1 h1 with h2 | h2
    · exact h2
    · omega
  · rintro rfl; exact Int.zero_mul _
theorem sgn_two (z : Int) (j : Nat) : sgn (z * 2 ^ j) = sgn z := by
  have h1 := mul_two_neg z j
  have h2 := mul_two_zero z j
  unfold sgn
  split <;> split <;> (try split) <;> (try split) <;> first | rfl | omega
theorem ups_scale (mode s : Int) (t r h : Nat) (j : Nat) : ups mode s t (r * 2 ^ j) (h * 2 ^ j) = ups mode s t r h := by
  have hp := Nat.two_pow_pos j
  have h1 : h * 2 ^ j < r * 2 ^ j ↔ h < r := Nat.mul_lt_mul_right hp
  have h2 : r * 2 ^ j = h * 2 ^ j ↔ r = h := Nat.mul_left_inj (by omega)
  unfold ups
  simp only [h1, h2]
theorem rt_shift {z : Int} (j : Nat) (e mode : Int) (h : z ≠ 0) : rt (z * 2 ^ j) e mode = rt z (e + j) mode := by
  have hn : z.natAbs ≠ 0 := by omega
  unfold rt
  rw [natAbs_two, sgn_two, rq_shift j e hn, bl_shift hn]
  generalize hQ : rq (bl z.natAbs) (e + j) = Q
  clear hQ
  rw [show ((bl z.natAbs + j : Nat) : Int) + e = (bl z.natAbs : Int) + (e + j) by omega]
  generalize hF : (if (bl z.natAbs : Int) + (e + j) ≤ -126 then (3 : Int) else 1) = F
  clear hF
  generalize z.natAbs = n at *
  by_cases hA : Q ≤ e
  · rw [if_pos hA, if_pos (by omega), Nat.mul_assoc, ← Nat.pow_add, show j + (e - Q).toNat = (e + j - Q).toNat by omega]
  · rw [if_neg hA]
    by_cases hB : Q ≤ e + j
    · rw [if_pos hB]
      have hj : j = (e + j - Q).toNat + (Q - e).toNat := by omega
      generalize (e + j - Q).toNat = i at hj ⊢
      generalize (Q - e).toNat = d at hj ⊢
      rw [hj, Nat.pow_add, ← Nat.mul_assoc, if_pos (Nat.mul_mod_left _ _), Nat.mul_div_cancel _ (Nat.two_pow_pos d)]
    · rw [if_neg hB]
      have hd : (Q - e).toNat = (Q - (e + j)).toNat + j := by omega
      have hd1 : 1 ≤ (Q - (e + j)).toNat := by omega
      rw [hd]
      generalize (Q - (e + j)).toNat = d at hd1 ⊢
      have hp := Nat.two_pow_pos j
      rw [Nat.pow_add, Nat.mul_mod_mul_right, Nat.mul_div_mul_right _ _ hp, show d + j - 1 = (d - 1) + j by omega, Nat.pow_add, ups_scale]
      have h0 : n % 2 ^ d * 2 ^ j = 0 ↔ n % 2 ^ d = 0 := by
        rw [Nat.mul_eq_zero]
        constructor
        · rintro (h | h)
          · exact h
          · omega
        · exact .inl
      simp only [h0]
theorem rnd_shift (z : Int) (j : Nat) (e mode : Int) : rnd (z * 2 ^ j) e mode = rnd z (e + j) mode := by
  by_cases h : z = 0
  · unfold rnd
    rw [if_pos ((mul_two_zero z j).2 h), if_pos h]
  · have hn : z.natAbs ≠ 0 := by omega
    have h2 := mul_two_neg z j
    unfold rnd
    rw [if_neg (fun hh => h ((mul_two_zero z j).1 hh)), if_neg h, rt_shift j e mode h, natAbs_two, rq_shift j e hn, sgn_two, bl_shift hn]
    rw [show ((bl z.natAbs + j : Nat) : Int) + e = (bl z.natAbs : Int) + (e + j) by omega]
    simp only [h2]
theorem odd_mod {a d : Nat} (ha : a % 2 = 1) (hd : 1 ≤ d) : a % 2 ^ d ≠ 0 := by
  intro h
  have h1 : a % 2 ^ d % 2 = a % 2 := Nat.mod_mod_of_dvd _ (by
    obtain ⟨k, rfl⟩ : ∃ k, d = k + 1 := ⟨d - 1, by omega⟩
    exact ⟨2 ^ k, by rw [Nat.pow_succ, Nat.mul_comm]⟩)
  rw [h] at h1
  omega
theorem ups_odd {a d : Nat} (mode s : Int) (ha : a % 2 = 1) (hd : 1 ≤ d) :
    ups mode s (a / 2 ^ d) (a % 2 ^ d) (2 ^ (d - 1)) = (if mode = 0 then decide (a / 2 ^ (d - 1) % 2 = 1 ∧ (1 < d ∨ a / 2 ^ d % 2 = 1)) else if mode = 1 then decide (s < 0) else if mode = 2 then decide (0 < s) else decide (mode = 4)) := by
  unfold ups
  by_cases hm : mode = 0
  · rw [if_pos hm, if_pos hm]
    obtain ⟨k, rfl⟩ : ∃ k, d = k + 1 := ⟨d - 1, by omega⟩
    rw [show k + 1 - 1 = k by omega]
    have hs := Nat.mod_pow_succ (b := 2) (x := a) (k := k)
    have hl := Nat.mod_lt a (Nat.two_pow_pos k)
    rw [hs]
    generalize a / 2 ^ (k + 1) % 2 = T
    have hb : a / 2 ^ k % 2 < 2 := Nat.mod_lt _ (by decide)
    have h0 : k = 0 → a % 2 ^ k = 0 := by rintro rfl; simp [Nat.mod_one]
    have h1 : k ≠ 0 → a % 2 ^ k ≠ 0 := fun h => odd_mod ha (by omega)
    clear hs
    generalize a / 2 ^ k % 2 = b at *
    generalize a % 2 ^ k = r at *
    generalize 2 ^ k = p at *
    congr 1
    have hb2 : b = 0 ∨ b = 1 := by omega
    rcases hb2 with rfl | rfl
    · rw [Nat.mul_zero, Nat.add_zero]
      refine propext ⟨fun h => ?_, fun h => ?_⟩ <;> omega
    · rw [Nat.mul_one]
      by_cases hk : k = 0
      · have := h0 hk
        refine propext ⟨fun h => ?_, fun h => ?_⟩ <;> omega
      · have := h1 hk
        refine propext ⟨fun h => ?_, fun h => ?_⟩ <;> omega
  · rw [if_neg hm, if_neg hm]
theorem rq_bd (n : Nat) (e : Int) : -149 ≤ rq n e ∧ (n : Int) + e - 24 ≤ rq n e := by
  unfold rq
  split <;> omega
theorem rq_le {n : Nat} {e : Int} (h : (n : Int) + e ≤ 128) : rq n e ≤ 104 := by
  unfold rq
  split <;> omega
theorem rt_le (z e mode : Int) : (rt z e mode).1 ≤ 16777216 := by
  have hq := rq_bd (bl z.natAbs) e
  have hb : ∀ k, bl z.natAbs ≤ k → z.natAbs < 2 ^ k := fun k h => bl_iff.1 h
  have e24 : (2 : Nat) ^ 24 = 16777216 := by decide
  unfold rt
  generalize rq (bl z.natAbs) e = Q at *
  by_cases hA : Q ≤ e
  · rw [if_pos hA]
    have h1 := hb (24 - (e - Q).toNat) (by omega)
    have h2 := Nat.mul_le_mul_right (2 ^ (e - Q).toNat) (Nat.le_of_lt h1)
    by_cases hz : bl z.natAbs = 0
    · rw [bl_eq_zero] at hz
      show z.natAbs * _ ≤ _
      rw [hz, Nat.zero_mul]; omega
    · rw [← Nat.pow_add, show 24 - (e - Q).toNat + (e - Q).toNat = 24 by omega, e24] at h2
      exact h2
  · rw [if_neg hA]
    have h1 := hb (24 + (Q - e).toNat) (by omega)
    rw [Nat.pow_add, e24] at h1
    have h2 : z.natAbs / 2 ^ (Q - e).toNat < 16777216 := Nat.div_lt_of_lt_mul (by rw [Nat.mul_comm]; exact h1)
    by_cases hr : z.natAbs % 2 ^ (Q - e).toNat = 0
    · rw [if_pos hr]; exact Nat.le_of_lt h2
    · rw [if_neg hr]
      show z.natAbs / 2 ^ (Q - e).toNat + (if _ then 1 else 0) ≤ 16777216
      split <;> omega
theorem rp_of {t : Nat} {Q : Int} (ht : t ≤ 16777216) (h1 : -149 ≤ Q) (h2 : (bl t : Int) + Q ≤ 128) (h3 : Q ≤ 104) : ∃ m e, Rp Ieee.single m e ∧ V t Q = V m e := by
  by_cases hb : t = 16777216
  · subst hb
    have h25 : bl 16777216 = 25 := by rw [show (16777216 : Nat) = 1 * 2 ^ 24 by decide, bl_shift (by decide)]; rfl
    rw [h25] at h2
    refine ⟨8388608, Q + 1, ⟨by rw [bi32]; decide, by rw [lp32]; omega, by rw [top32]; omega⟩, ?_⟩
    have := V_shift 8388608 Q 1 (by unfold K; omega)
    rw [show Q + ((1 : Nat) : Int) = Q + 1 by omega] at this
    rw [this]
  · exact ⟨t, Q, ⟨by rw [bi32]; omega, by rw [lp32]; omega, by rw [top32]; omega⟩, rfl⟩
theorem near_isN (s : Bool) {t : Nat} {Q : Int} (ht : t ≤ 16777216) (h1 : -149 ≤ Q) (h2 : (bl t : Int) + Q ≤ 128) (h3 : Q ≤ 104) : IsN Ieee.single (Ieee.single.nearest s t Q) s (V t Q) := by
  obtain ⟨m, e, hr, hv⟩ := rp_of ht h1 h2 h3
  rw [hv]
  exact isN_nearest hK32 s hr (by unfold K; omega) hv
theorem narrow_t {x t : Nat} {s : Bool} {Q : Int} (hx : IsN Ieee.double x s (V t Q)) (ht : t ≤ 16777216) (h1 : -149 ≤ Q) (h2 : (bl t : Int) + Q ≤ 128) (h3 : Q ≤ 104) : floatToFloatBits .f64 x .f32 = some (Ieee.single.nearest s t Q) := by
  have hn := near_isN s ht h1 h2 h3
  obtain ⟨m, e, hr, hv⟩ := rp_of ht h1 h2 h3
  rw [hv] at hx hn
  obtain ⟨r, h, hi⟩ := narrow hx hr
  rw [h, hi.unique hK32 hn]
theorem opp_near {t : Nat} {Q : Int} (ht : t ≤ 16777216) (h1 : -149 ≤ Q) (h2 : (bl t : Int) + Q ≤ 128) (h3 : Q ≤ 104) : opp (Ieee.single.nearest false t Q) = Ieee.single.nearest true t Q := by
  have ha := near_isN false ht h1 h2 h3
  have hb := near_isN true ht h1 h2 h3
  obtain ⟨m, e, _, c, hr, hw, hv⟩ := ha
  have hl : rung Ieee.single m e < Ieee.single.signWeight := by rw [sw32]; rw [ir32] at hr; omega
  have hc := isN_word true c hr
  rw [hv] at hc
  refine IsN.unique hK32 ?_ hb
  have : opp (Ieee.single.nearest false t Q) = Ieee.single.word true (rung Ieee.single m e) := by
    unfold opp
    rw [hw, (sg_word hl).1, (sg_word hl).2]
    rfl
  rw [this]
  exact hc
theorem near_lt (s : Bool) {t : Nat} {Q : Int} (ht : t ≤ 16777216) (h1 : -149 ≤ Q) (h2 : (bl t : Int) + Q ≤ 128) (h3 : Q ≤ 104) : Ieee.single.nearest s t Q < 4294967296 ∧ nan Ieee.single (Ieee.single.nearest s t Q) = false := by
  have h := near_isN s ht h1 h2 h3
  have hl := isN_lt h
  rw [wd32] at hl
  exact ⟨hl, (isN_fin' h).2.1⟩
end Go.Proofs.Ytjddhnjjeomfjaa.Rf
end
section
set_option linter.unusedVariables false
set_option linter.unusedSimpArgs false
namespace Go.Proofs.Ytjddhnjjeomfjaa.Na
open Go.RowKit Go.Proofs.YtjddhnjjeomfjaaW.PrintWords Go.Proofs.Ytjddhnjjeomfjaa.PW Go.Proofs.Ytjddhnjjeomfjaa.Pc Go.Proofs.Ytjddhnjjeomfjaa.Pb Go.Proofs.Ytjddhnjjeomfjaa.Pw Go.Proofs.Ytjddhnjjeomfjaa.Ma Go.Proofs.Ytjddhnjjeomfjaa.Mb Go.Proofs.Ytjddhnjjeomfjaa.Mc Go.Proofs.Ytjddhnjjeomfjaa.Md Go.Proofs.Ytjddhnjjeomfjaa.Me Go.Proofs.Ytjddhnjjeomfjaa.Mg Go.Proofs.Ytjddhnjjeomfjaa.Mh Go.Proofs.Ytjddhnjjeomfjaa.Mk Go.Proofs.Ytjddhnjjeomfjaa.Mn Go.Proofs.Ytjddhnjjeomfjaa.Mu Go.Proofs.Ytjddhnjjeomfjaa.Nb Dg
open Pm (sgn)
theorem sizeN : (Try.prog.info? 58).map (·.size) = some 2 := by kernel_rfl
theorem boxes1 (w : World) (o : Obj) : ∀ W, Below (w.heap.size + 1) (w.alloc o) W → Below w.heap.size w W ∧ W.heap[w.heap.size]? = some o ∧ w.heap.size + 1 ≤ W.heap.size := fun W hW =>
  ⟨(Ma.below_alloc w o).trans (hW.mono (by omega)), (hW.block _ (by omega)).trans (heap_alloc_new w o), by have := hW.size; rw [alloc_size] at this; exact this⟩
theorem boxes2 (w : World) (o o2 : Obj) : ∀ W, Below (w.heap.size + 2) ((w.alloc o).alloc o2) W → Below w.heap.size w W ∧ W.heap[w.heap.size]? = some o ∧ W.heap[w.heap.size + 1]? = some o2 ∧ w.heap.size + 2 ≤ W.heap.size := fun W hW => by
  have e := alloc_size w o
  have h := boxes1 (w.alloc o) o2 W (by rw [e]; exact hW)
  rw [e] at h
  exact ⟨(Ma.below_alloc w o).trans (h.1.mono (by omega)), (h.1.block _ (by omega)).trans (heap_alloc_new w o), h.2.1, h.2.2⟩
theorem boxes3 (w : World) (o o2 o3 : Obj) : ∀ W, Below (w.heap.size + 3) (((w.alloc o).alloc o2).alloc o3) W → Below w.heap.size w W ∧ W.heap[w.heap.size]? = some o ∧ W.heap[w.heap.size + 1]? = some o2 ∧ W.heap[w.heap.size + 1 + 1]? = some o3 ∧ w.heap.size + 3 ≤ W.heap.size := fun W hW => by
  have e := alloc_size w o
  have h := boxes2 (w.alloc o) o2 o3 W (by rw [e]; exact hW)
  rw [e] at h
  exact ⟨(Ma.below_alloc w o).trans (h.1.mono (by omega)), (h.1.block _ (by omega)).trans (heap_alloc_new w o), h.2.1, h.2.2.1, h.2.2.2⟩
theorem zset {w : World} {p gw t : Nat} {n : Int} {cs : Array Value} (h : Z w p n) (hw : w.heap[gw]? = some (.cells cs t (0, 0))) (ht : t ≠ 89) (hc : ∀ (i : Nat) (x : Int), cs[i]? ≠ some (Value.int .u32 x)) (i : Nat) (u : Value) : Z (w.setCell ⟨gw, i, none⟩ u) p n := by
  obtain ⟨A, c, hb, hm⟩ := h
  have hne : p ≠ gw := by
    rintro rfl
    rw [hb] at hw
    injection hw with hw
    injection hw with _ hw
    exact ht hw.symm
  refine ⟨A, c, (Below.heap_setCell _ _ _ _ hne).trans hb, Mn.Mg.kept_at hm fun ad hA hn => Below.heap_setCell _ _ _ _ ?_⟩
  intro e
  have e : ad.block = gw := e
  obtain ⟨ad', hA', hc'⟩ := hm.1.2.2 hn
  rw [hA] at hA'
  injection hA' with hA'
  subst hA'
  obtain ⟨cs', hs, hR, hcell⟩ := hc' 0 _ (List.getElem?_eq_getElem hn)
  have hR' : cs' = [.int .u32 (D n.natAbs)[0]] := hR
  subst hR'
  have h4 := hcell 0 _ rfl
  rw [← e] at hw
  simp only [World.cell?, Mn.add_block, hw] at h4
  split at h4
  · cases h4
  · exact hc _ _ h4
def GivesN (w : World) (z e : Int) (en : Ending) (w' : World) : Prop := ∃ g, en = .returned (.agg #[.pointer (some ⟨g, 0, none⟩), .int .i64 e]) ∧ Z w' g z ∧ Below w.heap.size w w'
theorem two_cells {u v : Value} (hu : ∀ x : Int, u ≠ Value.int .u32 x) (hv : ∀ x : Int, v ≠ Value.int .u32 x) : ∀ (i : Nat) (x : Int), (#[u, v] : Array Value)[i]? ≠ some (Value.int .u32 x) := by
  intro i x h
  match i, h with
  | 0, h => exact hu x (by simpa using h)
  | 1, h => exact hv x (by simpa using h)
  | n + 2, h => simp at h
theorem storedN {w W : World} {g q : Nat} {z e : Int} (hg : W.heap[g]? = some (.cells #[.pointer none, .int .i64 0] 58 (0, 0))) (hb : Below w.heap.size w W) (hw : w.heap.size ≤ g) (hz : Z W q z) :
    ((W.setCell ⟨g, 0, none⟩ (.pointer (some ⟨q, 0, none⟩))).setCell ⟨g, 1, none⟩ (.int .i64 e)).heap[g]? = some (.cells #[.pointer (some ⟨q, 0, none⟩), .int .i64 e] 58 (0, 0)) ∧ Z ((W.setCell ⟨g, 0, none⟩ (.pointer (some ⟨q, 0, none⟩))).setCell ⟨g, 1, none⟩ (.int .i64 e)) q z ∧ Below w.heap.size w ((W.setCell ⟨g, 0, none⟩ (.pointer (some ⟨q, 0, none⟩))).setCell ⟨g, 1, none⟩ (.int .i64 e)) :=
  ⟨blk_set (blk_set hg 0 _) 1 _, zset (zset hz hg (by decide) (two_cells (fun x => by simp) (fun x => by simp)) 0 _) (blk_set hg 0 (.pointer (some ⟨q, 0, none⟩))) (by decide) (two_cells (fun x => by simp) (fun x => by simp)) 1 _, (hb.setCell (p := ⟨g, 0, none⟩) hw _).setCell (p := ⟨g, 1, none⟩) hw _⟩
theorem cellsN {W : World} {g : Nat} {u v : Value} {t : Nat} (hg : W.heap[g]? = some (.cells #[u, v] t (0, 0))) : W.cell? ⟨g, 0, none⟩ = some u ∧ W.cell? ⟨g, 1, none⟩ = some v ∧ W.frozen? ⟨g, 0, none⟩ = false ∧ W.frozen? ⟨g, 1, none⟩ = false ∧ g < W.heap.size :=
  ⟨blk_cell hg 0, blk_cell hg 1, blk_frozen hg 0, blk_frozen hg 1, (Array.getElem?_eq_some_iff.1 hg).1⟩
theorem news_below {W0 W W2 : World} {p : Nat} (h : Below W0.heap.size W0 W) (hp : W0.heap.size ≤ p) (hg : W.grownBy W2 (some p)) : Below W0.heap.size W0 W2 := below_put h hg hp h.size
set_option maxHeartbeats 400000 in
theorem nsign {w : World} {q : Nat} {z e : Int} (hz : Z w q z) :
    Calls Try.prog 63 #[.agg #[.pointer (some ⟨q, 0, none⟩), .int .i64 e]] w fun en w' => en = .returned (.int .i64 (sgn z)) ∧ Below w.heap.size w w' := by
  have HS := Lib.hid (Me.sign (hz.below (Ma.below_alloc w (.cells #[.pointer (some ⟨q, 0, none⟩), .int .i64 e] 58))))
  clear hz
  go_enter Try.func63, Try.ntmps63
  go_wp2_with fail
  refine HS.out.mono ?_
  rintro en w1 ⟨rfl, rfl⟩
  go_wp2
  go_ret
  exact ⟨rfl, Ma.below_alloc _ _⟩
end Go.Proofs.Ytjddhnjjeomfjaa.Na
end
section
set_option linter.unusedVariables false
set_option linter.unusedSimpArgs false
namespace Go.Proofs.Ytjddhnjjeomfjaa.Nc
open Go.RowKit Go.Proofs.YtjddhnjjeomfjaaW.PrintWords Go.Proofs.Ytjddhnjjeomfjaa.PW Go.Proofs.Ytjddhnjjeomfjaa.Pc Go.Proofs.Ytjddhnjjeomfjaa.Pb Go.Proofs.Ytjddhnjjeomfjaa.Pw Go.Proofs.Ytjddhnjjeomfjaa.Ma Go.Proofs.Ytjddhnjjeomfjaa.Mb Go.Proofs.Ytjddhnjjeomfjaa.Mc Go.Proofs.Ytjddhnjjeomfjaa.Md Go.Proofs.Ytjddhnjjeomfjaa.Me Go.Proofs.Ytjddhnjjeomfjaa.Mg Go.Proofs.Ytjddhnjjeomfjaa.Mh Go.Proofs.Ytjddhnjjeomfjaa.Mk Go.Proofs.Ytjddhnjjeomfjaa.Mn Go.Proofs.Ytjddhnjjeomfjaa.Mu Go.Proofs.Ytjddhnjjeomfjaa.Na Dg
open Pm (sgn)
theorem GivesN.of {w W w' : World} {z e : Int} {en : Ending} (hb : Below w.heap.size w W) (h : GivesN W z e en w') : GivesN w z e en w' := by
  obtain ⟨g, he, hz, hbl⟩ := h
  exact ⟨g, he, hz, below_then hb hbl⟩
set_option maxHeartbeats 800000 in
theorem nat {w : World} {q : Nat} {z e : Int} {k : Nat} {e2 : Int} (hz : Z w q z) (hk : e - e2 = (k : Int)) (h1 : bl z.natAbs ≤ 268435456) (h2 : k ≤ 268435456) :
    Calls Try.prog 126 #[.agg #[.pointer (some ⟨q, 0, none⟩), .int .i64 e], .int .i64 e2] w (News w (z * 2 ^ k)) := by
  obtain ⟨hb0, hx0, hs0⟩ := boxes1 w (.cells #[.pointer (some ⟨q, 0, none⟩), .int .i64 e] 58) (w.alloc (.cells #[.pointer (some ⟨q, 0, none⟩), .int .i64 e] 58)) (Below.refl _ _)
  obtain ⟨W0, hW0⟩ : ∃ W0, W0 = w.alloc (.cells #[.pointer (some ⟨q, 0, none⟩), .int .i64 e] 58) := ⟨_, rfl⟩
  rw [← hW0] at hb0 hx0 hs0
  have HL := Lib.hid (Md.lsh (n := k) (Z.new W0).blk ((hz.below hb0).below (Ma.below_alloc W0 _)) h1 h2)
  have hkw : IntKind.u64.wrap (wrap64 (e - e2)) = (k : Int) := by rw [hk, IntKind.wrap_u64]; unfold wrap64; omega
  have HKW := Lib.hid hkw
  have HB0 := Lib.hid hb0
  have HW := Lib.hid hW0
  obtain ⟨c0, c1, _, _, l0⟩ := cellsN hx0
  clear hz hb0 hx0 hW0 h1 hkw hk h2
  go_enter Try.func126, Try.ntmps126
  go_upto_region 1 with fail
  rw [← HW.out]
  clear HW
  go_wp2_with fail
  rw [HKW.out]
  refine HL.out.mono ?_
  intro en w1 hp
  have hN := Lib.hid (Mc.Puts.news hp)
  obtain ⟨rfl, hz, hg⟩ := hp
  clear hz hg
  go_wp2
  go_ret
  obtain ⟨g, he, hz, hle, hb⟩ := hN.out
  exact ⟨g, he, hz, Nat.le_trans (by omega) hle, below_then HB0.out hb⟩
def addz (x e y f : Int) : Int := if x = 0 then y else if y = 0 then x else x * 2 ^ (e - min e f).toNat + y * 2 ^ (f - min e f).toNat
def adde (x e y f : Int) : Int := if x = 0 then f else if y = 0 then e else min e f
theorem sgn_eq0 {z : Int} : (sgn z = 0) = (z = 0) := by
  apply propext
  unfold Pm.sgn
  split
  · omega
  · split <;> omega
set_option maxRecDepth 20000 in
set_option maxHeartbeats 3200000 in
theorem nadd {w : World} {q s : Nat} {x y e f : Int} (hx : Z w q x) (hy : Z w s y) (hbx : bl x.natAbs ≤ 100000000) (hby : bl y.natAbs ≤ 100000000) (h1 : -1000000 ≤ e) (h2 : e ≤ 1000000) (h3 : -1000000 ≤ f) (h4 : f ≤ 1000000) :
    Calls Try.prog 86 #[.agg #[.pointer (some ⟨q, 0, none⟩), .int .i64 e], .agg #[.pointer (some ⟨s, 0, none⟩), .int .i64 f]] w (GivesN w (addz x e y f) (adde x e y f)) := by
  obtain ⟨W0, hW0⟩ : ∃ W0, W0 = ((w.alloc (.cells #[.pointer (some ⟨q, 0, none⟩), .int .i64 e] 58)).alloc (.cells #[.pointer (some ⟨s, 0, none⟩), .int .i64 f] 58)).alloc (.cells #[.pointer none, .int .i64 0] 58) := ⟨_, rfl⟩
  obtain ⟨hb0, hx0, hy0, hx1, hs0⟩ := boxes3 w (.cells #[.pointer (some ⟨q, 0, none⟩), .int .i64 e] 58) (.cells #[.pointer (some ⟨s, 0, none⟩), .int .i64 f] 58) (.cells #[.pointer none, .int .i64 0] 58) W0 (by rw [hW0]; exact Below.refl _ _)
  have zx := hx.below hb0
  have zy := hy.below hb0
  have HS := Lib.hid (fun (W : World) (hb : Below W0.heap.size W0 W) => nsign (e := e) (zx.below hb))
  have HT := Lib.hid (fun (W : World) (hb : Below W0.heap.size W0 W) => nsign (e := f) (zy.below hb))
  have HB0 := Lib.hid hb0
  have HX0 := Lib.hid hx0
  have HY0 := Lib.hid hy0
  have HX1 := Lib.hid hx1
  have HW := Lib.hid hW0
  have HZX := Lib.hid zx
  have HZY := Lib.hid zy
  obtain ⟨c0, c1, _, _, l0⟩ := cellsN hx0
  obtain ⟨e0, e1, _, _, m0⟩ := cellsN hy0
  obtain ⟨d0, d1, f0, f1, l1⟩ := cellsN hx1
  have n0 : w.heap.size ≠ w.heap.size + 1 + 1 := by omega
  have n1 := Ne.symm n0
  -- what stays after a call that makes memory
  have stay := Lib.hid (fun (W : World) (hb : Below W0.heap.size W0 W) => (⟨cellsN ((hb.block _ l0).trans hx0), cellsN ((hb.block _ m0).trans hy0), cellsN ((hb.block _ l1).trans hx1), (hb.block _ l1).trans hx1, hb0.trans (hb.mono (Nat.le_trans (by omega) hs0))⟩ : _ ∧ _ ∧ _ ∧ _ ∧ Below w.heap.size w W))
  clear hx hy hb0 hx0 hx1 hy0 hW0 zx zy
  by_cases hx00 : x = 0
  · have es : sgn x = 0 := by rw [sgn_eq0]; exact hx00
    have ez : addz x e y f = y := by unfold addz; rw [if_pos hx00]
    have ee : adde x e y f = f := by unfold adde; rw [if_pos hx00]
    rw [ez, ee]
    rw [es] at HS
    clear es ez ee hx00
    go_enter Try.func86, Try.ntmps86
    go_upto_region 1 with fail
    rw [← HW.out]
    clear HW
    go_wp2_with fail
    refine (HS.out W0 (Below.refl _ _)).mono ?_
    rintro en w1 ⟨rfl, hb1⟩
    obtain ⟨⟨p0, p1, _, _, p2⟩, ⟨r0, r1, _, _, r2⟩, ⟨t0, t1, t2, t3, t4⟩, hx1, hbw⟩ := stay.out w1 hb1
    have HX2 := Lib.hid hx1
    have HB2 := Lib.hid hbw
    have HZ2 := Lib.hid (HZY.out.below hb1)
    clear hx1 hbw hb1
    go_wp2
    have hst := storedN (e := f) HX2.out HB2.out (by omega) HZ2.out
    exact bodyPost_ret (results_single rfl (.cell (w.heap.size + 1 + 1) 58 #[.pointer (some ⟨s, 0, none⟩), .int .i64 f] (0, 0) _ rfl hst.1 Try.underlying58 rfl sizeN .nil)) rfl ⟨_, rfl, hst.2.1, hst.2.2⟩
  · have es : ¬ sgn x = 0 := by rw [sgn_eq0]; exact hx00
    generalize sgn x = sx at HS es
    by_cases hy00 : y = 0
    · have et : sgn y = 0 := by rw [sgn_eq0]; exact hy00
      have ez : addz x e y f = x := by unfold addz; rw [if_neg hx00, if_pos hy00]
      have ee : adde x e y f = e := by unfold adde; rw [if_neg hx00, if_pos hy00]
      rw [ez, ee]
      rw [et] at HT
      clear et ez ee hx00 hy00
      go_enter Try.func86, Try.ntmps86
      go_upto_region 1 with fail
      rw [← HW.out]
      clear HW
      go_wp2_with fail
      refine (HS.out W0 (Below.refl _ _)).mono ?_
      rintro en w1 ⟨rfl, hb1⟩
      obtain ⟨⟨p0, p1, _, _, p2⟩, ⟨r0, r1, _, _, r2⟩, ⟨t0, t1, t2, t3, t4⟩, hx1, hbw⟩ := stay.out w1 hb1
      have HB1 := Lib.hid hb1
      clear hx1 hbw hb1
      go_wp2_with fail
      refine (HT.out w1 HB1.out).mono ?_
      rintro en w2 ⟨rfl, hb2⟩
      have hb12 := below_then HB1.out hb2
      clear p0 p1 p2 r0 r1 r2 t0 t1 t2 t3 t4 HB1 hb2
      obtain ⟨⟨p0, p1, _, _, p2⟩, ⟨r0, r1, _, _, r2⟩, ⟨t0, t1, t2, t3, t4⟩, hx1, hbw⟩ := stay.out w2 hb12
      have HX2 := Lib.hid hx1
      have HB2 := Lib.hid hbw
      have HZ2 := Lib.hid (HZX.out.below hb12)
      clear hx1 hbw hb12
      go_wp2
      have hst := storedN (e := e) HX2.out HB2.out (by omega) HZ2.out
      exact bodyPost_ret (results_single rfl (.cell (w.heap.size + 1 + 1) 58 #[.pointer (some ⟨q, 0, none⟩), .int .i64 e] (0, 0) _ rfl hst.1 Try.underlying58 rfl sizeN .nil)) rfl ⟨_, rfl, hst.2.1, hst.2.2⟩
    · have et : ¬ sgn y = 0 := by rw [sgn_eq0]; exact hy00
      generalize sgn y = sy at HT et
      have ez : addz x e y f = x * 2 ^ (e - min e f).toNat + y * 2 ^ (f - min e f).toNat := by unfold addz; rw [if_neg hx00, if_neg hy00]
      have ee : adde x e y f = min e f := by unfold adde; rw [if_neg hx00, if_neg hy00]
      rw [ez, ee]
      clear ez ee hx00 hy00
      obtain ⟨m, hm⟩ : ∃ m, m = min e f := ⟨_, rfl⟩
      obtain ⟨kx, hkx⟩ : ∃ k : Nat, k = (e - min e f).toNat := ⟨_, rfl⟩
      obtain ⟨ky, hky⟩ : ∃ k : Nat, k = (f - min e f).toNat := ⟨_, rfl⟩
      rw [← hkx, ← hky, ← hm]
      have bx : bl (x * 2 ^ kx).natAbs ≤ 200000000 := by
        rw [Int.natAbs_mul, show ((2 : Int) ^ kx).natAbs = 2 ^ kx by rw [Int.natAbs_pow]; rfl]
        have := bl_shift_le x.natAbs kx
        omega
      have by_ : bl (y * 2 ^ ky).natAbs ≤ 200000000 := by
        rw [Int.natAbs_mul, show ((2 : Int) ^ ky).natAbs = 2 ^ ky by rw [Int.natAbs_pow]; rfl]
        have := bl_shift_le y.natAbs ky
        omega
      have HA := Lib.hid (fun (W : World) (hb : Below W0.heap.size W0 W) => nat (e2 := m) (k := kx) (HZX.out.below hb) (e := e) (by omega) (by omega) (by omega))
      have HC := Lib.hid (fun (W : World) (hb : Below W0.heap.size W0 W) => nat (e2 := m) (k := ky) (HZY.out.below hb) (e := f) (by omega) (by omega) (by omega))
      have HP := Lib.hid (fun (W : World) (p g g4 : Nat) (hp : Blk W p) (hz : Z W g (x * 2 ^ kx)) (hz4 : Z W g4 (y * 2 ^ ky)) => Mj.add hp hz hz4 (by omega) (by omega))
      have HM := Lib.hid hm
      have HKX := Lib.hid hkx
      have HKY := Lib.hid hky
      generalize x * 2 ^ kx = xx at *
      generalize y * 2 ^ ky = yy at *
      have hmin : min e f = m := hm.symm
      clear hm hkx hky bx by_ hbx hby
      have hle : (e ≤ f ∧ e = m) ∨ (f < e ∧ f = m) := by omega
      clear hmin
      rcases hle with ⟨hle, rfl⟩ | ⟨hle, rfl⟩
      all_goals
       go_enter Try.func86, Try.ntmps86
       go_upto_region 1 with fail
       rw [← HW.out]
       clear HW
       go_wp2_with fail
       refine (HS.out W0 (Below.refl _ _)).mono ?_
       rintro en w1 ⟨rfl, hb1⟩
       obtain ⟨⟨p0, p1, _, _, p2⟩, ⟨r0, r1, _, _, r2⟩, ⟨t0, t1, t2, t3, t4⟩, hx1, hbw⟩ := stay.out w1 hb1
       have HB1 := Lib.hid hb1
       clear hx1 hbw hb1
       go_wp2_with fail
       refine (HT.out w1 HB1.out).mono ?_
       rintro en w2 ⟨rfl, hb2⟩
       have hb12 := below_then HB1.out hb2
       clear p0 p1 p2 r0 r1 r2 t0 t1 t2 t3 t4 HB1 hb2
       obtain ⟨⟨p0, p1, _, _, p2⟩, ⟨r0, r1, _, _, r2⟩, ⟨t0, t1, t2, t3, t4⟩, hx1, hbw⟩ := stay.out w2 hb12
       have HB2 := Lib.hid hb12
       clear hx1 hbw hb12
       have hs2 := HB2.out.size
       go_wp2_with fail
       all_goals
         go_region_held3 (fun w' => w'.cell? ⟨w.heap.size, 0, none⟩ = some (.pointer (some ⟨q, 0, none⟩)) ∧ w'.cell? ⟨w.heap.size, 1, none⟩ = some (.int .i64 e) ∧ w'.cell? ⟨w.heap.size + 1, 0, none⟩ = some (.pointer (some ⟨s, 0, none⟩)) ∧ w'.cell? ⟨w.heap.size + 1, 1, none⟩ = some (.int .i64 f)) (go_keep)
           (first
             | (go_at_call 126; refine (HA.out _ (by first | exact HB2.out.drew | exact (HB2.out.alloc hs2 _).drew | exact HB2.out.drew.alloc hs2 _)).mono ?_; rintro en w3 ⟨g, rfl, hz, hg, hb⟩; have hX := below_then (show Below W0.heap.size W0 _ by first | exact HB2.out.drew | exact (HB2.out.alloc hs2 _).drew | exact HB2.out.drew.alloc hs2 _) hb; have hs3 := hX.size; obtain ⟨⟨p0, p1, _, _, p2⟩, ⟨r0, r1, _, _, r2⟩, ⟨t0, t1, t2, t3, t4⟩, hx1, hbw⟩ := stay.out w3 hX; have HX3 := Lib.hid hX; have HZ := Lib.hid hz; have HK3 := Lib.hid (fun p (hp : Blk _ p) => hp.below hb); clear hz hg hb hX hx1 hbw HA)
             | (go_at_call 126; refine (HC.out _ (by first | exact HX3.out | exact HX3.out.alloc hs3 _)).mono ?_; rintro en w4 ⟨g4, rfl, hz, hg, hb⟩; have hX := below_then (show Below W0.heap.size W0 _ by first | exact HX3.out | exact HX3.out.alloc hs3 _) hb; have hs4 := hX.size; obtain ⟨⟨p0, p1, _, _, p2⟩, ⟨r0, r1, _, _, r2⟩, ⟨t0, t1, t2, t3, t4⟩, hx1, hbw⟩ := stay.out w4 hX; have HX4 := Lib.hid hX; have HZ1 := Lib.hid (show Z w4 g xx from (by first | exact HZ.out.below hb | exact (HZ.out.below (Ma.below_alloc _ _)).below hb)); have HZ2 := Lib.hid hz; have HK4 := Lib.hid (fun p (hp : Blk _ p) => hp.below hb); clear hz hg hb hX hx1 hbw HC HZ)
             | (go_at_call 75; refine (HP.out _ _ _ _ (by first | exact HK4.out _ (HK3.out _ ((Z.new _).blk.below (Below.refl _ _).drew)) | exact HK4.out _ (HK3.out _ (Z.new _).blk) | exact HK4.out _ (Z.new _).blk | exact (Z.new _).blk) (by first | exact HZ1.out | exact HZ1.out.below (Ma.below_alloc _ _)) (by first | exact HZ2.out | exact HZ2.out.below (Ma.below_alloc _ _))).mono ?_; rintro en w5 ⟨rfl, hz, hg⟩; have hX := news_below (W0 := W0) (by first | exact HX4.out | exact HX4.out.alloc hs4 _) (by first | exact hs2 | exact hs3 | exact hs4 | (simp; omega)) hg; obtain ⟨⟨p0, p1, _, _, p2⟩, ⟨r0, r1, _, _, r2⟩, ⟨t0, t1, t2, t3, t4⟩, hx1, hbw⟩ := stay.out w5 hX; have HX5 := Lib.hid hx1; have HB5 := Lib.hid hbw; have HZ5 := Lib.hid hz; clear hz hg hX hx1 hbw HP))
         all_goals go_wp2
         all_goals
           first
             | (have hst := storedN (e := e) HX5.out HB5.out (by omega) HZ5.out
                exact bodyPost_ret (results_single rfl (.cell (w.heap.size + 1 + 1) 58 #[.pointer (some ⟨_, 0, none⟩), .int .i64 e] (0, 0) _ rfl hst.1 Try.underlying58 rfl sizeN .nil)) rfl ⟨_, rfl, hst.2.1, hst.2.2⟩)
             | (have hst := storedN (e := f) HX5.out HB5.out (by omega) HZ5.out
                exact bodyPost_ret (results_single rfl (.cell (w.heap.size + 1 + 1) 58 #[.pointer (some ⟨_, 0, none⟩), .int .i64 f] (0, 0) _ rfl hst.1 Try.underlying58 rfl sizeN .nil)) rfl ⟨_, rfl, hst.2.1, hst.2.2⟩)
end Go.Proofs.Ytjddhnjjeomfjaa.Nc
end
section
namespace Go.Proofs.Ytjddhnjjeomfjaa.Qc
open Go.RowKit Go.Proofs.YtjddhnjjeomfjaaW.PrintWords Go.Proofs.Ytjddhnjjeomfjaa.PW Go.Proofs.Ytjddhnjjeomfjaa.Pb Go.Proofs.Ytjddhnjjeomfjaa.Pc Go.Proofs.Ytjddhnjjeomfjaa.Pm Go.Proofs.Ytjddhnjjeomfjaa.Pw Go.Proofs.Ytjddhnjjeomfjaa.Px Go.Proofs.Ytjddhnjjeomfjaa.Pt Go.Proofs.Ytjddhnjjeomfjaa.Pz Go.Proofs.Ytjddhnjjeomfjaa.Pzs Go.Proofs.Ytjddhnjjeomfjaa.Ss Go.Proofs.Ytjddhnjjeomfjaa.St Go.Proofs.Ytjddhnjjeomfjaa.Sm Go.Proofs.Ytjddhnjjeomfjaa.Qa Go.Proofs.Ytjddhnjjeomfjaa.Qb Go.Proofs.Ytjddhnjjeomfjaa.Mu Go.Proofs.Ytjddhnjjeomfjaa.Nc Dg
set_option linter.unusedVariables false
set_option linter.unusedSimpArgs false
theorem bl_two (z : Int) (k : Nat) : bl (z * 2 ^ k).natAbs ≤ bl z.natAbs + k := by
  rw [Int.natAbs_mul, show ((2 : Int) ^ k).natAbs = 2 ^ k by rw [Int.natAbs_pow]; rfl]
  exact bl_shift_le _ _
theorem mn_min (a b : Int) : mn a b = min a b := by
  unfold mn
  split <;> omega
theorem saddD (x y e f : Int) (hx : bl x.natAbs ≤ 100000000) (hy : bl y.natAbs ≤ 100000000) (h1 : -1000000 ≤ e) (h2 : e ≤ 1000000) (h3 : -1000000 ≤ f) (h4 : f ≤ 1000000) :
    Ev (fun k => spec_l03Add.f k (sgn x) (L x.natAbs) e (sgn y) (L y.natAbs) f) (dy (addz x e y f) (adde x e y f)) := by
  unfold spec_l03Add.f addz adde
  by_cases hx0 : x = 0
  · rw [if_pos hx0, if_pos hx0]
    exact ifp (sgn_zero.2 hx0) (Ev.bind (f := fun k t => _) (smakeD y f (by omega) (by omega) (by omega)) (ev_of fun _ => rfl))
  · rw [if_neg hx0, if_neg hx0]
    refine ifn (fun h => hx0 (sgn_zero.1 h)) ?_
    by_cases hy0 : y = 0
    · rw [if_pos hy0, if_pos hy0]
      exact ifp (sgn_zero.2 hy0) (Ev.bind (f := fun k t => _) (smakeD x e (by omega) (by omega) (by omega)) (ev_of fun _ => rfl))
    · rw [if_neg hy0, if_neg hy0]
      refine ifn (fun h => hy0 (sgn_zero.1 h)) ?_
      rw [mn_min, wrapZ (e - min e f) (by omega) (by omega), wrapZ (f - min e f) (by omega) (by omega)]
      have ea : e - min e f = ((e - min e f).toNat : Nat) := by omega
      have eb : f - min e f = ((f - min e f).toNat : Nat) := by omega
      have sa := sleft x (e - min e f).toNat (by omega) (by omega)
      have sb := sleft y (f - min e f).toNat (by omega) (by omega)
      rw [← ea] at sa
      rw [← eb] at sb
      have ba := bl_two x (e - min e f).toNat
      have bb := bl_two y (f - min e f).toNat
      have bc := bl_add_natAbs (x * 2 ^ (e - min e f).toNat) (y * 2 ^ (f - min e f).toNat)
      refine Ev.bind (f := fun k t => _) sa (Ev.bind (f := fun k t => _) sb (Ev.bind (f := fun k t => _) (sadd _ _ (by omega) (by omega)) ?_))
      exact Ev.bind (f := fun k t => _) (smakeD _ (min e f) (by omega) (by omega) (by omega)) (ev_of fun _ => rfl)
end Go.Proofs.Ytjddhnjjeomfjaa.Qc
end
section
set_option linter.unusedVariables false
set_option linter.unusedSimpArgs false
namespace Go.Proofs.Ytjddhnjjeomfjaa.Nd
open Go.RowKit Go.Proofs.YtjddhnjjeomfjaaW.PrintWords Go.Proofs.Ytjddhnjjeomfjaa.PW Go.Proofs.Ytjddhnjjeomfjaa.Pc Go.Proofs.Ytjddhnjjeomfjaa.Pb Go.Proofs.Ytjddhnjjeomfjaa.Pw Go.Proofs.Ytjddhnjjeomfjaa.Ma Go.Proofs.Ytjddhnjjeomfjaa.Mb Go.Proofs.Ytjddhnjjeomfjaa.Mc Go.Proofs.Ytjddhnjjeomfjaa.Md Go.Proofs.Ytjddhnjjeomfjaa.Me Go.Proofs.Ytjddhnjjeomfjaa.Mg Go.Proofs.Ytjddhnjjeomfjaa.Mh Go.Proofs.Ytjddhnjjeomfjaa.Mk Go.Proofs.Ytjddhnjjeomfjaa.Mn Go.Proofs.Ytjddhnjjeomfjaa.Mo Go.Proofs.Ytjddhnjjeomfjaa.Mu Go.Proofs.Ytjddhnjjeomfjaa.Na Go.Proofs.Ytjddhnjjeomfjaa.Nb Dg
open Pm (sgn)
theorem sgn_eq0 {z : Int} : (sgn z = 0) = (z = 0) := by
  apply propext
  unfold Pm.sgn
  split
  · omega
  · split <;> omega
theorem sizeD : (Try.prog.info? 33).map (·.size) = some 3 := by kernel_rfl
theorem storedD {w W : World} {g : Nat} {s x : Int} {u : Value} {l : List Int} (hg : W.heap[g]? = some (.cells #[.int .i64 0, .slice none 0 0, .int .i64 0] 33 (0, 0))) (hb : Below w.heap.size w W) (hw : w.heap.size ≤ g) (hR : Kd.R (Kd.int .i64) 2 W w.heap.size (fun _ => True) u l) :
    (((W.setCell ⟨g, 0, none⟩ (.int .i64 s)).setCell ⟨g, 1, none⟩ u).setCell ⟨g, 2, none⟩ (.int .i64 x)).heap[g]? = some (.cells #[.int .i64 s, u, .int .i64 x] 33 (0, 0)) ∧ Kd.R (Kd.int .i64) 2 (((W.setCell ⟨g, 0, none⟩ (.int .i64 s)).setCell ⟨g, 1, none⟩ u).setCell ⟨g, 2, none⟩ (.int .i64 x)) w.heap.size (fun _ => True) u l ∧ Below w.heap.size w (((W.setCell ⟨g, 0, none⟩ (.int .i64 s)).setCell ⟨g, 1, none⟩ u).setCell ⟨g, 2, none⟩ (.int .i64 x)) :=
  ⟨blk_set (blk_set (blk_set hg 0 _) 1 _) 2 _, Kd.R_set (Kd.R_set (Kd.R_set hR hg (by decide) 0 _) (blk_set hg 0 _) (by decide) 1 _) (blk_set (blk_set hg 0 _) 1 _) (by decide) 2 _, ((hb.setCell (p := ⟨g, 0, none⟩) hw _).setCell (p := ⟨g, 1, none⟩) hw _).setCell (p := ⟨g, 2, none⟩) hw _⟩
theorem cellsD {W : World} {g : Nat} {u v x : Value} {t : Nat} (hg : W.heap[g]? = some (.cells #[u, v, x] t (0, 0))) : W.cell? ⟨g, 0, none⟩ = some u ∧ W.cell? ⟨g, 1, none⟩ = some v ∧ W.cell? ⟨g, 2, none⟩ = some x ∧ W.frozen? ⟨g, 0, none⟩ = false ∧ W.frozen? ⟨g, 1, none⟩ = false ∧ W.frozen? ⟨g, 2, none⟩ = false ∧ g < W.heap.size :=
  ⟨blk_cell hg 0, blk_cell hg 1, blk_cell hg 2, blk_frozen hg 0, blk_frozen hg 1, blk_frozen hg 2, (Array.getElem?_eq_some_iff.1 hg).1⟩
end Go.Proofs.Ytjddhnjjeomfjaa.Nd
end
section
namespace Go.Proofs.Ytjddhnjjeomfjaa.Nf
end Go.Proofs.Ytjddhnjjeomfjaa.Nf
end
section
set_option linter.unusedVariables false
set_option linter.unusedSimpArgs false
namespace Go.Proofs.Ytjddhnjjeomfjaa.Va
open Go.RowKit Go.Proofs.YtjddhnjjeomfjaaW.PrintWords Go.Proofs.Ytjddhnjjeomfjaa.PW Go.Proofs.Ytjddhnjjeomfjaa.Pc Go.Proofs.Ytjddhnjjeomfjaa.Pb Go.Proofs.Ytjddhnjjeomfjaa.Pw Go.Proofs.Ytjddhnjjeomfjaa.Pm Go.Proofs.Ytjddhnjjeomfjaa.Ma Go.Proofs.Ytjddhnjjeomfjaa.Mc Go.Proofs.Ytjddhnjjeomfjaa.Mh Go.Proofs.Ytjddhnjjeomfjaa.Mu Go.Proofs.Ytjddhnjjeomfjaa.Na Go.Proofs.Ytjddhnjjeomfjaa.Nd Go.Proofs.Ytjddhnjjeomfjaa.Nf Go.Proofs.Ytjddhnjjeomfjaa.Qa Dg Fp
def zf (x : Nat) : Int := sv (sg Ieee.single x) (Wc.mant x)
theorem zf_natAbs (x : Nat) : (zf x).natAbs = Wc.mant x := by
  unfold zf sv
  split <;> omega
theorem mant_lt (x : Nat) : Wc.mant x < 16777216 := by
  unfold Wc.mant
  split <;> omega
theorem zf_bl (x : Nat) : bl (zf x).natAbs ≤ 24 := by
  rw [zf_natAbs]
  exact bl_le (mant_lt x)
theorem expo_bd {x : Nat} (h : fin Ieee.single x = true) : -149 ≤ Wc.expo x ∧ Wc.expo x ≤ 104 := by
  unfold fin rg at h
  rw [sw32, ir32] at h
  have h := of_decide_eq_true h
  unfold Wc.expo
  split <;> omega
theorem nnumOf {w : World} (x : Nat) (hx : x < 4294967296) :
    Calls Try.prog 85 #[.float .f32 x] w (GivesN w (zf x) (Wc.expo x)) := by
  obtain ⟨W0, hW0⟩ : ∃ W0, W0 = w.alloc (.cells #[.pointer none, .int .i64 0] 58) := ⟨_, rfl⟩
  obtain ⟨hb0, hx0, hs0⟩ := boxes1 w (.cells #[.pointer none, .int .i64 0] 58) W0 (by rw [hW0]; exact Below.refl _ _)
  have HP := Lib.hid (fun (W : World) => Wc.parts x hx W)
  have HB0 := Lib.hid hb0
  have HX0 := Lib.hid hx0
  have HW := Lib.hid hW0
  have h1 := mant_lt x
  have h2 := zf_natAbs x
  have HN := Lib.hid (fun (W : World) => newInt (w := W) (n := zf x) (by omega) (by omega))
  obtain ⟨d0, d1, f0, f1, l1⟩ := cellsN hx0
  clear hb0 hx0 hW0 h1 h2
  unfold zf at *
  generalize Wc.expo x = e at *
  generalize sv (sg Ieee.single x) (Wc.mant x) = z at *
  go_enter Try.func85, Try.ntmps85
  go_upto_region 1 with fail
  rw [← HW.out]
  clear HW
  go_wp2_with fail
  refine (HP.out _).mono ?_
  rintro en w1 ⟨rfl, rfl⟩
  go_wp2_with fail
  refine (HN.out _).mono ?_
  rintro en w2 ⟨g, rfl, hz, hg, hb⟩
  have hx1 := (hb.block _ l1).trans HX0.out
  clear d0 d1 f0 f1
  obtain ⟨b0, b1, g0, g1, k1⟩ := cellsN hx1
  have HX2 := Lib.hid hx1
  have HB2 := Lib.hid (below_then HB0.out hb)
  have HZ2 := Lib.hid hz
  clear hz hb hx1
  go_wp2
  have hst := storedN (e := e) HX2.out HB2.out (by omega) HZ2.out
  exact bodyPost_ret (results_single rfl (.cell w.heap.size 58 #[.pointer (some ⟨_, 0, none⟩), .int .i64 e] (0, 0) _ rfl hst.1 Try.underlying58 rfl sizeN .nil)) rfl ⟨_, rfl, hst.2.1, hst.2.2⟩
end Go.Proofs.Ytjddhnjjeomfjaa.Va
end
section
set_option linter.unusedVariables false
set_option linter.unusedSimpArgs false
namespace Go.Proofs.Ytjddhnjjeomfjaa.Ad
open Go.RowKit Go.Proofs.Ytjddhnjjeomfjaa.Pm Go.Proofs.Ytjddhnjjeomfjaa.Mu Go.Proofs.Ytjddhnjjeomfjaa.Nc Go.Proofs.Ytjddhnjjeomfjaa.Qa Go.Proofs.Ytjddhnjjeomfjaa.Re Go.Proofs.Ytjddhnjjeomfjaa.Rf Dg Fp
structure Od (z e z' e' : Int) : Prop where
  dy : dy z e = (sgn z', L z'.natAbs, e')
  zero : z = 0 → z' = 0 ∧ e' = 0
  pos : z ≠ 0 → z' ≠ 0 ∧ z'.natAbs % 2 = 1 ∧ ∃ k : Nat, z = z' * 2 ^ k ∧ e' = e + k ∧ k < bl z.natAbs
  bl : bl z'.natAbs ≤ bl z.natAbs
theorem od (z e : Int) : ∃ z' e', Od z e z' e' := by
  by_cases h0 : z = 0
  · subst h0
    exact ⟨0, 0, (by unfold Qa.dy; rw [if_pos rfl]; show ((0 : Int), ([] : List Int), (0 : Int)) = (sgn 0, L 0, 0); rw [L_zero]; rfl), fun _ => ⟨rfl, rfl⟩, fun h => absurd rfl h, Nat.le_refl _⟩
  · have hn : z.natAbs ≠ 0 := by omega
    obtain ⟨hs1, hs2⟩ := tz_spec hn
    generalize hq : z.natAbs / 2 ^ tz z.natAbs = q at hs1 hs2
    have hq0 : q ≠ 0 := by omega
    have key : ∀ z' : Int, z'.natAbs = q → sgn z' = sgn z → z = z' * 2 ^ tz z.natAbs → ∃ z' e', Od z e z' e' := fun z' ha hs hz => by
      refine ⟨z', e + (tz z.natAbs : Nat), ?_, fun h => absurd h h0, fun _ => ⟨by omega, by omega, tz z.natAbs, hz, rfl, tz_lt hn⟩, ?_⟩
      · unfold Qa.dy
        rw [if_neg h0, hq, ha, hs]
      · rw [ha, ← hq]; exact bl_mono (Nat.div_le_self _ _)
    have hp : ((2 : Int) ^ tz z.natAbs) = ((2 ^ tz z.natAbs : Nat) : Int) := by push_cast; rfl
    by_cases hneg : z < 0
    · refine key (-(q : Int)) (by omega) ?_ ?_
      · unfold sgn; rw [if_pos (by omega), if_pos hneg]
      · rw [hp, Int.neg_mul, ← Int.natCast_mul, ← hs1]; omega
    · refine key (q : Int) (by omega) ?_ ?_
      · unfold sgn; rw [if_neg (by omega), if_neg (by omega), if_neg hneg, if_neg h0]
      · rw [hp, ← Int.natCast_mul, ← hs1]; omega
theorem od_rnd {z e z' e' : Int} (h : Od z e z' e') (mode : Int) : rnd z e mode = rnd z' e' mode := by
  by_cases h0 : z = 0
  · obtain ⟨h1, h2⟩ := h.zero h0
    rw [h0, h1]
    unfold rnd
    rw [if_pos rfl, if_pos rfl]
  · obtain ⟨_, _, k, h1, h2, _⟩ := h.pos h0
    rw [h1, rnd_shift, h2]
def B : Int := -100000
def at_ (z e : Int) : Int := z * 2 ^ (e - B).toNat
theorem pow_join (a b : Nat) : (2 : Int) ^ a * 2 ^ b = 2 ^ (a + b) := (Int.pow_add _ _ _).symm
theorem od_at {z e z' e' : Int} (h : Od z e z' e') (he : B ≤ e) : at_ z e = at_ z' e' := by
  unfold at_
  by_cases h0 : z = 0
  · obtain ⟨h1, h2⟩ := h.zero h0
    rw [h0, h1, Int.zero_mul, Int.zero_mul]
  · obtain ⟨_, _, k, h1, h2, _⟩ := h.pos h0
    rw [h2]
    conv => lhs; rw [h1]
    rw [Int.mul_assoc, pow_join, show k + (e - B).toNat = (e + (k : Int) - B).toNat by omega]
theorem add_at {x e y f : Int} (he : B ≤ e) (hf : B ≤ f) : at_ (addz x e y f) (adde x e y f) = at_ x e + at_ y f := by
  unfold at_ addz adde
  by_cases hx : x = 0
  · rw [if_pos hx, if_pos hx, hx, Int.zero_mul, Int.zero_add]
  · rw [if_neg hx, if_neg hx]
    by_cases hy : y = 0
    · rw [if_pos hy, if_pos hy, hy, Int.zero_mul, Int.add_zero]
    · rw [if_neg hy, if_neg hy, Int.add_mul, Int.mul_assoc, Int.mul_assoc, pow_join, pow_join]
      rw [show (e - min e f).toNat + (min e f - B).toNat = (e - B).toNat by omega, show (f - min e f).toNat + (min e f - B).toNat = (f - B).toNat by omega]
theorem at_rnd {z e : Int} (he : B ≤ e) (mode : Int) : rnd z e mode = rnd (at_ z e) B mode := by
  unfold at_
  rw [rnd_shift, show B + ((e - B).toNat : Int) = e by omega]
theorem at_zero {z e : Int} : at_ z e = 0 ↔ z = 0 := mul_two_zero _ _
theorem adde_lo {x e y f : Int} (b : Int) (he : b ≤ e) (hf : b ≤ f) : b ≤ adde x e y f := by
  unfold adde
  split
  · exact hf
  · split <;> omega
theorem adde_hi {x e y f : Int} (b : Int) (he : e ≤ b) (hf : f ≤ b) : adde x e y f ≤ b := by
  unfold adde
  split
  · exact hf
  · split <;> omega
theorem add_od {x e y f x' e' y' f' : Int} (hx : Od x e x' e') (hy : Od y f y' f') (he : B ≤ e) (hf : B ≤ f) (he' : B ≤ e') (hf' : B ≤ f') :
    (addz x e y f = 0 ↔ addz x' e' y' f' = 0) ∧ ∀ mode, rnd (addz x e y f) (adde x e y f) mode = rnd (addz x' e' y' f') (adde x' e' y' f') mode := by
  have h : at_ (addz x e y f) (adde x e y f) = at_ (addz x' e' y' f') (adde x' e' y' f') := by
    rw [add_at he hf, add_at he' hf', od_at hx he, od_at hy hf]
  refine ⟨?_, fun mode => ?_⟩
  · rw [← at_zero (e := adde x e y f), h, at_zero]
  · rw [at_rnd (adde_lo B he hf), at_rnd (adde_lo B he' hf'), h]
theorem addz_bl {x e y f : Int} {a d : Nat} (hx : bl x.natAbs ≤ a) (hy : bl y.natAbs ≤ a) (h1 : e - f ≤ d) (h2 : f - e ≤ d) : bl (addz x e y f).natAbs ≤ a + d + 1 := by
  have bx := Qc.bl_two x (e - min e f).toNat
  have by_ := Qc.bl_two y (f - min e f).toNat
  have bs := bl_add_natAbs (x * 2 ^ (e - min e f).toNat) (y * 2 ^ (f - min e f).toNat)
  unfold addz
  split
  · omega
  · split <;> omega
end Go.Proofs.Ytjddhnjjeomfjaa.Ad
end
section
set_option linter.unusedVariables false
set_option linter.unusedSimpArgs false
namespace Go.Proofs.Ytjddhnjjeomfjaa.Sl
open Go.RowKit Go.Proofs.YtjddhnjjeomfjaaW.PrintWords Go.Proofs.YtjddhnjjeomfjaaW.PrintMore Go.Proofs.Ytjddhnjjeomfjaa.PW Go.Proofs.Ytjddhnjjeomfjaa.Pb Go.Proofs.Ytjddhnjjeomfjaa.Pc Go.Proofs.Ytjddhnjjeomfjaa.Pm Go.Proofs.Ytjddhnjjeomfjaa.Pw Go.Proofs.Ytjddhnjjeomfjaa.Ps Go.Proofs.Ytjddhnjjeomfjaa.Px Go.Proofs.Ytjddhnjjeomfjaa.Pv Go.Proofs.Ytjddhnjjeomfjaa.Pt Go.Proofs.Ytjddhnjjeomfjaa.Pz Go.Proofs.Ytjddhnjjeomfjaa.Ss Go.Proofs.Ytjddhnjjeomfjaa.St Go.Proofs.Ytjddhnjjeomfjaa.Qa Go.Proofs.Ytjddhnjjeomfjaa.Mu Go.Proofs.Ytjddhnjjeomfjaa.Re Go.Proofs.Ytjddhnjjeomfjaa.Rf Dg
theorem wrap_sq (z : Int) : wrap64 (sgn z * sgn z) = sgn (z.natAbs : Int) := by
  unfold sgn
  split
  · rw [if_neg (by omega), if_neg (by omega)]; exact (wrapZ _ (by omega) (by omega)).trans (by decide)
  · split
    · rw [if_neg (by omega), if_pos (by omega)]; exact (wrapZ _ (by omega) (by omega)).trans (by decide)
    · rw [if_neg (by omega), if_neg (by omega)]; exact (wrapZ _ (by omega) (by omega)).trans (by decide)
theorem sabs (z : Int) (hz : bl z.natAbs ≤ 1000000) : Ev (fun k => spec_l02Abs.f k (sgn z) (L z.natAbs)) (sgn (z.natAbs : Int), L z.natAbs) := by
  unfold spec_l02Abs.f
  rw [wrap_sq]
  have hs := smake (sgn (z.natAbs : Int)) (L z.natAbs) (L_dig _) (Nat.le_trans (L_len _) (by omega))
  rw [L_val] at hs
  rw [show ((z.natAbs : Nat) : Int).toNat = z.natAbs by omega] at hs
  have h2 := smk_sgn (z.natAbs : Int)
  rw [Int.natAbs_natCast] at h2
  rw [h2] at hs
  exact Ev.bind (f := fun k t => _) hs (ev_of fun _ => rfl)
theorem smore (b : Bool) (t : Nat) (Q : Int) (hb : bl t ≤ 1000000) : Ev (fun k => spec_l03Multiple.j0 k Q b (sgn (t : Int)) (L t)) (sgn ((t + (if b = true then 1 else 0) : Nat) : Int), L (t + (if b = true then 1 else 0)), Q, false) := by
  have ho := sof 1 (by decide) (by decide)
  have ha := sadd (t : Int) 1 (by rw [Int.natAbs_natCast]; omega) (by decide)
  rw [Int.natAbs_natCast, show ((t : Int) + 1) = ((t + 1 : Nat) : Int) by push_cast; rfl, Int.natAbs_natCast] at ha
  cases b with
  | false => exact Ev.step (f := fun _ => some (sgn (t : Int), L t, Q, false)) (fun k => rfl) (Ev.now _)
  | true =>
    refine Ev.step (f := fun k => (spec_l02Of.f k 1).bind fun b => (spec_l02Add.f k (sgn (t : Int)) (L t) b.1 b.2).bind fun c => some (c.1, c.2, Q, false)) (fun k => rfl) ?_
    exact Ev.bind (f := fun k (b : Int × List Int) => (spec_l02Add.f k (sgn (t : Int)) (L t) b.1 b.2).bind fun c => some (c.1, c.2, Q, false)) ho (Ev.bind (f := fun k (c : Int × List Int) => some (c.1, c.2, Q, false)) ha (Ev.now _))
theorem mx_rq (n : Nat) (e : Int) (hn : n ≤ 1000000) (h1 : -1000000 ≤ e) (h2 : e ≤ 1000000) : mx (wrap64 (wrap64 ((n : Int) + e) - 24)) (-149) = rq n e := by
  rw [wrapZ ((n : Int) + e) (by omega) (by omega), wrapZ _ (by omega) (by omega)]
  rfl
theorem smult {z e mode : Int} (h0 : z ≠ 0) (ho : z.natAbs % 2 = 1) (hb : bl z.natAbs ≤ 100000) (h1 : -100000 ≤ e) (h2 : e ≤ 100000) (h3 : 0 ≤ mode) (h4 : mode ≤ 4) :
    Ev (fun k => spec_l03Multiple.f k (sgn z) (L z.natAbs) e mode) (sgn ((rt z e mode).1 : Int), L (rt z e mode).1, rq (bl z.natAbs) e, decide (rq (bl z.natAbs) e ≤ e)) := by
  unfold spec_l03Multiple.f
  refine Ev.bind (f := fun k t => _) (sabs z (by omega)) (Ev.bind (f := fun k t => _) (slength (sgn (z.natAbs : Int)) z.natAbs (by omega)) ?_)
  have hq := rq_bd (bl z.natAbs) e
  have hqu : rq (bl z.natAbs) e ≤ 300000 := by unfold rq; split <;> omega
  simp only [mx_rq _ _ (show bl z.natAbs ≤ 1000000 by omega) (show -1000000 ≤ e by omega) (show e ≤ 1000000 by omega)]
  unfold rt
  have hsn : sgn (z.natAbs : Int) = 1 := by unfold sgn; rw [if_neg (by omega), if_neg (by omega)]
  generalize rq (bl z.natAbs) e = Q at *
  simp only [wrapZ (Q - e) (by omega) (by omega)]
  by_cases hA : Q ≤ e
  · rw [if_pos hA, decide_eq_true hA]
    refine ifp (by omega) ?_
    rw [wrapZ (-(Q - e)) (by omega) (by omega), show -(Q - e) = (((e - Q).toNat : Nat) : Int) by omega]
    have hl := sleft (z.natAbs : Int) (e - Q).toNat (by rw [Int.natAbs_natCast]; omega) (by omega)
    rw [Int.natAbs_natCast, show (z.natAbs : Int) * 2 ^ (e - Q).toNat = ((z.natAbs * 2 ^ (e - Q).toNat : Nat) : Int) by push_cast; rfl, Int.natAbs_natCast] at hl
    exact Ev.bind (f := fun k t => _) hl (ev_of fun _ => rfl)
  · rw [if_neg hA, decide_eq_false hA]
    refine ifn (by omega) ?_
    obtain ⟨d, hd⟩ : ∃ d : Nat, (d : Int) = Q - e := ⟨(Q - e).toNat, by omega⟩
    have hd1 : 1 ≤ d := by omega
    have hd2 : (Q - e).toNat = d := by omega
    rw [hd2, if_neg (odd_mod ho hd1), ← hd]
    have hc := scut (sgn (z.natAbs : Int)) z.natAbs d (by omega) (by omega)
    have hk := smk_of (s := sgn (z.natAbs : Int)) (z := ((z.natAbs / 2 ^ d : Nat) : Int)) (fun h => by have hp := Int.natCast_nonneg (z.natAbs / 2 ^ d); rw [hsn]; unfold sgn; rw [if_neg (Int.not_lt.2 hp), if_neg h])
    rw [Int.natAbs_natCast] at hk
    rw [hk] at hc
    refine Ev.bind (f := fun k t => _) hc ?_
    rw [wrapZ ((d : Int) - 1) (by omega) (by omega), show (d : Int) - 1 = ((d - 1 : Nat) : Int) by omega, sbit _ _ _ (by omega) (by omega)]
    have hb0 := sbit (sgn ((z.natAbs / 2 ^ d : Nat) : Int)) (z.natAbs / 2 ^ d) 0 (Nat.le_trans (bl_mono (Nat.div_le_self _ _)) (by omega)) (by omega)
    rw [show ((0 : Nat) : Int) = 0 from rfl] at hb0
    simp only [hb0, Option.bind_some]
    have hu := ups_odd mode (sgn z) ho hd1
    have hbt : bl (z.natAbs / 2 ^ d) ≤ 1000000 := Nat.le_trans (bl_mono (Nat.div_le_self _ _)) (by omega)
    have hmo := fun b => smore b (z.natAbs / 2 ^ d) Q hbt
    rw [hu]
    clear hu hb0 hc hk
    rw [Nat.pow_zero, Nat.div_one]
    generalize z.natAbs / 2 ^ d = t at *
    generalize z.natAbs / 2 ^ (d - 1) % 2 = b at *
    by_cases m0 : mode = 0
    · refine ifp m0 ?_
      rw [if_pos m0]
      by_cases hb1 : b = 1
      · refine ifp (by omega) ?_
        by_cases hd3 : 1 < d
        · refine ifp (by omega) ?_
          rw [decide_eq_true ⟨hb1, .inl hd3⟩]
          exact hmo true
        · refine ifn (by omega) ?_
          have := hmo (((t % 2 : Nat) : Int) == 1)
          rw [show (((t % 2 : Nat) : Int) == 1) = decide (b = 1 ∧ (1 < d ∨ t % 2 = 1)) by
            rw [Bool.eq_iff_iff, beq_iff_eq, decide_eq_true_iff]; omega] at this ⊢
          exact this
      · refine ifn (by omega) ?_
        rw [decide_eq_false (by omega)]
        exact hmo false
    · rw [if_neg m0]
      refine ifn m0 ?_
      by_cases m1 : mode = 1
      · refine ifp m1 ?_
        rw [if_pos m1]
        exact hmo _
      · refine ifn m1 ?_
        rw [if_neg m1]
        by_cases m2 : mode = 2
        · refine ifp m2 ?_
          rw [if_pos m2]
          exact hmo _
        · refine ifn m2 ?_
          rw [if_neg m2]
          by_cases m4 : mode = 4
          · refine ifp m4 ?_
            rw [decide_eq_true m4]
            exact hmo true
          · refine ifn m4 ?_
            rw [decide_eq_false m4]
            exact hmo false
end Go.Proofs.Ytjddhnjjeomfjaa.Sl
end
section
set_option linter.unusedVariables false
set_option linter.unusedSimpArgs false
namespace Go.Proofs.Ytjddhnjjeomfjaa.Hs
open Go.RowKit Go.Proofs.YtjddhnjjeomfjaaW.PrintWords Go.Proofs.Ytjddhnjjeomfjaa.Ma Go.Proofs.Ytjddhnjjeomfjaa.Mb Go.Proofs.Ytjddhnjjeomfjaa.Mc Go.Proofs.Ytjddhnjjeomfjaa.Mu Dg
def Hs (w W : World) (l : List (Nat × Int)) : Prop := Below w.heap.size w W ∧ (l.map Prod.fst).Nodup ∧ ∀ x ∈ l, Z W x.1 x.2 ∧ w.heap.size ≤ x.1
theorem Hs.nil (w : World) : Hs w w [] := ⟨Below.refl _ _, .nil, fun x h => nomatch h⟩
theorem Hs.get {w W : World} {l : List (Nat × Int)} {p : Nat} {v : Int} (h : Hs w W l) (hm : (p, v) ∈ l) : Z W p v := (h.2.2 _ hm).1
theorem Hs.below {w W W' : World} {l : List (Nat × Int)} (h : Hs w W l) (hb : Below W.heap.size W W') : Hs w W' l :=
  ⟨below_then h.1 hb, h.2.1, fun x hx => ⟨(h.2.2 x hx).1.below hb, (h.2.2 x hx).2⟩⟩
theorem Hs.news {w W W' : World} {l : List (Nat × Int)} {g : Nat} {z : Int} (h : Hs w W l) (hz : Z W' g z) (hg : W.heap.size ≤ g) (hb : Below W.heap.size W W') : Hs w W' ((g, z) :: l) := by
  have h' := h.below hb
  refine ⟨h'.1, List.nodup_cons.2 ⟨fun hm => ?_, h'.2.1⟩, fun x hx => ?_⟩
  · obtain ⟨x, hx, he⟩ := List.mem_map.1 hm
    have := (h.2.2 x hx).1.lt
    omega
  · rcases List.mem_cons.1 hx with rfl | hx
    · have := h.1.size
      exact ⟨hz, by show w.heap.size ≤ g; omega⟩
    · exact h'.2.2 x hx
theorem Hs.new {w W : World} {l : List (Nat × Int)} (h : Hs w W l) : Hs w (W.alloc (.cells #[.bool false, .slice none 0 0] 89)) ((W.heap.size, 0) :: l) :=
  h.news (Z.new W) (Nat.le_refl _) (Ma.below_alloc W _)
theorem Hs.put {w W W' : World} {l : List (Nat × Int)} {p : Nat} {v z : Int} (h : Hs w W ((p, v) :: l)) (hz : Z W' p z) (hg : W.grownBy W' (some p)) : Hs w W' ((p, z) :: l) := by
  have hp := h.2.2 (p, v) (.head _)
  refine ⟨below_put h.1 hg hp.2 h.1.size, h.2.1, fun x hx => ?_⟩
  rcases List.mem_cons.1 hx with rfl | hx
  · exact ⟨hz, hp.2⟩
  · have hx' := h.2.2 x (.tail _ hx)
    refine ⟨hx'.1.grown hg hp.1.blk (fun e => ?_), hx'.2⟩
    exact (List.nodup_cons.1 h.2.1).1 (List.mem_map.2 ⟨x, hx, e⟩)
theorem Hs.swap {w W : World} {l : List (Nat × Int)} {a b : Nat × Int} (h : Hs w W (a :: b :: l)) : Hs w W (b :: a :: l) :=
  ⟨h.1, (List.Perm.swap b.1 a.1 (l.map Prod.fst)).nodup_iff.1 h.2.1 |> fun h => h, fun x hx => h.2.2 x (by
    rcases List.mem_cons.1 hx with rfl | hx
    · exact .tail _ (.head _)
    · rcases List.mem_cons.1 hx with rfl | hx
      · exact .head _
      · exact .tail _ (.tail _ hx))⟩
theorem Hs.tail {w W : World} {l : List (Nat × Int)} {a : Nat × Int} (h : Hs w W (a :: l)) : Hs w W l :=
  ⟨h.1, (List.nodup_cons.1 h.2.1).2, fun x hx => h.2.2 x (.tail _ hx)⟩
theorem Hs.drop2 {w W : World} {l : List (Nat × Int)} {a b : Nat × Int} (h : Hs w W (a :: b :: l)) : Hs w W (a :: l) := h.swap.tail
end Go.Proofs.Ytjddhnjjeomfjaa.Hs
end
section
set_option linter.unusedVariables false
set_option linter.unusedSimpArgs false
namespace Go.Proofs.Ytjddhnjjeomfjaa.Nr
open Go.RowKit Go.Proofs.Ytjddhnjjeomfjaa.Hs Go.Proofs.YtjddhnjjeomfjaaW.PrintWords Go.Proofs.Ytjddhnjjeomfjaa.PW Go.Proofs.Ytjddhnjjeomfjaa.Pc Go.Proofs.Ytjddhnjjeomfjaa.Pb Go.Proofs.Ytjddhnjjeomfjaa.Pw Go.Proofs.Ytjddhnjjeomfjaa.Pm Go.Proofs.Ytjddhnjjeomfjaa.Ma Go.Proofs.Ytjddhnjjeomfjaa.Mb Go.Proofs.Ytjddhnjjeomfjaa.Mc Go.Proofs.Ytjddhnjjeomfjaa.Me Go.Proofs.Ytjddhnjjeomfjaa.Mh Go.Proofs.Ytjddhnjjeomfjaa.Mk Go.Proofs.Ytjddhnjjeomfjaa.Mu Go.Proofs.Ytjddhnjjeomfjaa.Na Go.Proofs.Ytjddhnjjeomfjaa.Nb Go.Proofs.Ytjddhnjjeomfjaa.Re Go.Proofs.Ytjddhnjjeomfjaa.Ve Go.Proofs.Ytjddhnjjeomfjaa.Vg Dg Fp
theorem cells1 {W : World} {g : Nat} {u : Value} {t : Nat} (hg : W.heap[g]? = some (.cells #[u] t (0, 0))) : W.cell? ⟨g, 0, none⟩ = some u ∧ W.frozen? ⟨g, 0, none⟩ = false ∧ g < W.heap.size :=
  ⟨blk_cell hg 0, blk_frozen hg 0, (Array.getElem?_eq_some_iff.1 hg).1⟩
theorem tells_below {w w' : World} (h : ∃ n, w' = w.drewN n) : Below w.heap.size w w' := by
  obtain ⟨n, rfl⟩ := h
  exact below_drawn n
theorem newAt (w : World) (o : Obj) : (w.alloc o).heap[w.heap.size]? = some o := heap_alloc_new w o
theorem nround0 {w : World} {q : Nat} {e mode : Int} (hz : Z w q 0) :
    Calls Try.prog 35 #[.agg #[.pointer (some ⟨q, 0, none⟩), .int .i64 e], .int .i64 mode] w fun en w' => en = .returned (.tuple #[.float .f32 0, .int .i64 0]) ∧ Below w.heap.size w w' := by
  obtain ⟨W0, hW0⟩ : ∃ W0, W0 = (w.alloc (.cells #[.pointer (some ⟨q, 0, none⟩), .int .i64 e] 58)).alloc (.cells #[.int .i64 mode] 2) := ⟨_, rfl⟩
  obtain ⟨hb0, hx0, hx1, hs0⟩ := boxes2 w (.cells #[.pointer (some ⟨q, 0, none⟩), .int .i64 e] 58) (.cells #[.int .i64 mode] 2) W0 (by rw [hW0]; exact Below.refl _ _)
  have HS := Lib.hid (nsign (e := e) (hz.below hb0))
  have HB0 := Lib.hid hb0
  have HW := Lib.hid hW0
  obtain ⟨c0, c1, _, _, l0⟩ := cellsN hx0
  clear hb0 hx0 hx1 hW0 hz
  go_enter Try.func35, Try.ntmps35
  go_upto_region 1 with fail
  rw [← HW.out]
  clear HW
  go_wp2_with fail
  refine HS.out.mono ?_
  rintro en w1 ⟨rfl, hb⟩
  have HB1 := Lib.hid (below_then HB0.out hb)
  clear hb
  go_wp2
  go_ret2
  exact ⟨rfl, HB1.out⟩
def St (w W : World) (q : Nat) (z e mode : Int) (bs : Nat) : Prop :=
  W.heap[w.heap.size]? = some (.cells #[.pointer (some ⟨q, 0, none⟩), .int .i64 e] 58 (0, 0)) ∧ W.heap[w.heap.size + 1]? = some (.cells #[.int .i64 mode] 2 (0, 0)) ∧ W.heap[bs]? = some (.cells #[.int .i64 (sgn z)] 3 (0, 0)) ∧ Z W q z ∧ Below w.heap.size w W
theorem St.cells {w wc W : World} {q bs : Nat} {z e mode : Int} (h : St w wc q z e mode bs) (hb : Below wc.heap.size wc W) :
    (W.cell? ⟨w.heap.size, 0, none⟩ = some (.pointer (some ⟨q, 0, none⟩)) ∧ W.cell? ⟨w.heap.size, 1, none⟩ = some (.int .i64 e)) ∧ W.cell? ⟨w.heap.size + 1, 0, none⟩ = some (.int .i64 mode) ∧ W.cell? ⟨bs, 0, none⟩ = some (.int .i64 (sgn z)) ∧ Z W q z ∧ Below w.heap.size w W := by
  obtain ⟨h0, h1, h2, hz, hw⟩ := h
  have g0 := (hb.block _ (blk_lt h0)).trans h0
  have g1 := (hb.block _ (blk_lt h1)).trans h1
  have g2 := (hb.block _ (blk_lt h2)).trans h2
  exact ⟨⟨blk_cell g0 0, blk_cell g0 1⟩, blk_cell g1 0, blk_cell g2 0, hz.below hb, below_then hw hb⟩
theorem St.new {w W : World} {q : Nat} {z e mode : Int} (h0 : W.heap[w.heap.size]? = some (.cells #[.pointer (some ⟨q, 0, none⟩), .int .i64 e] 58 (0, 0))) (h1 : W.heap[w.heap.size + 1]? = some (.cells #[.int .i64 mode] 2 (0, 0))) (hz : Z W q z) (hb : Below w.heap.size w W) :
    St w (W.alloc (.cells #[.int .i64 (sgn z)] 3)) q z e mode W.heap.size :=
  ⟨blk_alloc h0 _, blk_alloc h1 _, newAt _ _, hz.below (Ma.below_alloc _ _), Go.Proofs.YtjddhnjjeomfjaaW.PrintWords.below_alloc hb _⟩
theorem St.set {w W : World} {q bs : Nat} {z e mode : Int} (h0 : W.heap[w.heap.size]? = some (.cells #[.pointer (some ⟨q, 0, none⟩), .int .i64 e] 58 (0, 0))) (h1 : W.heap[w.heap.size + 1]? = some (.cells #[.int .i64 mode] 2 (0, 0))) (hz : Z W q z) (hb : Below w.heap.size w W)
    (hs : W.heap[bs]? = some (.cells #[.int .i64 0] 3 (0, 0))) (hle : w.heap.size + 2 ≤ bs) : St w (W.setCell ⟨bs, 0, none⟩ (.int .i64 (sgn z))) q z e mode bs :=
  ⟨blk_far h0 (by simp; omega) _, blk_far h1 (by simp; omega) _, blk_set hs 0 _, zset hz hs (by decide) (by intro i x; match i with | 0 => simp | n + 1 => simp) 0 _, hb.setCell (p := ⟨bs, 0, none⟩) (by simp; omega) _⟩
theorem rt_up {z e mode Q : Int} (hQ : Q = rq (bl z.natAbs) e) (h : Q ≤ e) : rt z e mode = (z.natAbs * 2 ^ (e - Q).toNat, 0) := by
  unfold rt
  rw [← hQ, if_pos h]
theorem rt_exact {z e mode Q : Int} {k : Nat} (hQ : Q = rq (bl z.natAbs) e) (h : ¬ Q ≤ e) (hk : (k : Int) = Q - e) (hr : z.natAbs % 2 ^ k = 0) : rt z e mode = (z.natAbs / 2 ^ k, 0) := by
  have ek : (Q - e).toNat = k := by omega
  unfold rt
  rw [← hQ, if_neg h, ek, if_pos hr]
theorem rt_cut {z e mode Q : Int} {k : Nat} (hQ : Q = rq (bl z.natAbs) e) (h : ¬ Q ≤ e) (hk : (k : Int) = Q - e) (hr : z.natAbs % 2 ^ k ≠ 0) : rt z e mode = (z.natAbs / 2 ^ k + (if ups mode (sgn z) (z.natAbs / 2 ^ k) (z.natAbs % 2 ^ k) (2 ^ (k - 1)) = true then 1 else 0), if (bl z.natAbs : Int) + e ≤ -126 then 3 else 1) := by
  have ek : (Q - e).toNat = k := by omega
  unfold rt
  rw [← hQ, if_neg h, ek, if_neg hr]
theorem rest_of (n k : Nat) : (n : Int) - (n : Int) / 2 ^ k * 2 ^ k = ((n % 2 ^ k : Nat) : Int) := by
  have h := Nat.div_add_mod n (2 ^ k)
  have e1 : (n : Int) / 2 ^ k = ((n / 2 ^ k : Nat) : Int) := by push_cast; rfl
  have e2 : ((n / 2 ^ k : Nat) : Int) * 2 ^ k = ((n / 2 ^ k * 2 ^ k : Nat) : Int) := by push_cast; rfl
  rw [e1, e2]
  rw [Nat.mul_comm] at h
  omega
theorem sgn_nat {r : Nat} (h : r ≠ 0) : sgn (r : Int) = 1 := by unfold Pm.sgn; rw [if_neg (by omega), if_neg (by omega)]
theorem sgn_cases (x : Int) : (0 < x ∧ sgn x = 1) ∨ (x = 0 ∧ sgn x = 0) ∨ (x < 0 ∧ sgn x = -1) := by unfold Pm.sgn; split <;> (try split) <;> omega
theorem bl_div (n k : Nat) : bl (n / 2 ^ k) ≤ bl n := bl_mono (Nat.div_le_self _ _)
theorem bl_mod (n k : Nat) : bl (n % 2 ^ k) ≤ bl n := bl_mono (Nat.mod_le _ _)
theorem ups0 {s : Int} {t r h : Nat} : ups 0 s t r h = decide (h < r ∨ r = h ∧ t % 2 = 1) := rfl
theorem ups1 {s : Int} {t r h : Nat} : ups 1 s t r h = decide (s < 0) := rfl
theorem ups2 {s : Int} {t r h : Nat} : ups 2 s t r h = decide (0 < s) := rfl
theorem ups3 {s : Int} {t r h : Nat} : ups 3 s t r h = false := rfl
theorem ups4 {s : Int} {t r h : Nat} : ups 4 s t r h = true := rfl
theorem ldexpT {t : Nat} {Q : Int} (ht : t ≤ 16777216) (h1 : -149 ≤ Q) (h2 : Q ≤ 104) (w : World) :
    Calls Try.prog 54 #[.float .f64 (floatOfInt .f64 (t : Int)), .int .i64 Q] w fun e' w' => (∃ r, e' = .returned (.float .f64 r) ∧ IsN Ieee.double r false (V t Q)) ∧ w = w' := by
  have hb := ofInt64 (t : Int) (by omega) (by omega)
  rw [Int.natAbs_natCast, show decide ((t : Int) < 0) = false from decide_eq_false (by omega)] at hb
  by_cases h0 : t = 0
  · subst h0
    refine (mLdexp0 hb Q w).mono ?_
    rintro e' w' ⟨rfl, rfl⟩
    rw [V_zero] at hb
    exact ⟨⟨_, rfl, by rw [V_zero]; exact hb⟩, rfl⟩
  · exact mLdexp hb (by omega) (by omega) (by omega) (by omega) w
theorem convT {r t : Nat} {Q : Int} (hr : IsN Ieee.double r false (V t Q)) (ht : t ≤ 16777216) (h1 : -149 ≤ Q) (h2 : (bl t : Int) + Q ≤ 128) (h3 : Q ≤ 104) (w : World) : (convert 36 28 (.float .f64 r)).run Try.prog w = .ok (.float .f32 (Ieee.single.nearest false t Q)) w :=
  run_convert_float_float (P := Try.prog) w 36 28 .f64 .f32 r (Ieee.single.nearest false t Q) (by rw [Try.underlying36]; rfl) Try.underlying28 (Rf.narrow_t hr ht h1 h2 h3)
theorem negT {t : Nat} {Q : Int} (ht : t ≤ 16777216) (h1 : -149 ≤ Q) (h2 : (bl t : Int) + Q ≤ 128) (h3 : Q ≤ 104) : Op.negFloat .f32 (Ieee.single.nearest false t Q) = Ieee.single.nearest true t Q := by
  rw [We.neg32 _ (Rf.near_lt false ht h1 h2 h3).1, Rf.opp_near ht h1 h2 h3]
set_option maxRecDepth 20000 in
set_option maxHeartbeats 1600000 in
theorem nround {w : World} {q : Nat} {z e mode : Int} (hz : Z w q z) (h0 : z ≠ 0) (h1 : bl z.natAbs ≤ 1000000) (h2 : -1000000 ≤ e) (h3 : e ≤ 1000000) (h4 : 0 ≤ mode) (h5 : mode ≤ 4) :
    Calls Try.prog 35 #[.agg #[.pointer (some ⟨q, 0, none⟩), .int .i64 e], .int .i64 mode] w fun en w' => en = .returned (.tuple #[.float .f32 (rnd z e mode).1, .int .i64 (rnd z e mode).2]) ∧ Below w.heap.size w w' := by
  obtain ⟨W0, hW0⟩ : ∃ W0, W0 = (w.alloc (.cells #[.pointer (some ⟨q, 0, none⟩), .int .i64 e] 58)).alloc (.cells #[.int .i64 mode] 2) := ⟨_, rfl⟩
  obtain ⟨hb0, hx0, hx1, hs0⟩ := boxes2 w (.cells #[.pointer (some ⟨q, 0, none⟩), .int .i64 e] 58) (.cells #[.int .i64 mode] 2) W0 (by rw [hW0]; exact Below.refl _ _)
  have hz0 := hz.below hb0
  have HS := Lib.hid (fun (W : World) (hb : Below W0.heap.size W0 W) => nsign (e := e) (hz0.below hb))
  have HL := Lib.hid (fun (W : World) (hb : Below W0.heap.size W0 W) => Me.bitLen (hz0.below hb) (by omega))
  have HB0 := Lib.hid hb0
  have HX0 := Lib.hid hx0
  have HX1 := Lib.hid hx1
  have HZ0 := Lib.hid hz0
  have HW := Lib.hid hW0
  have hsg : sgn z ≠ 0 := by unfold Pm.sgn; split <;> (try split) <;> omega
  obtain ⟨c0, c1, _, _, l0⟩ := cellsN hx0
  obtain ⟨d0, _, l1⟩ := cells1 hx1
  clear hb0 hx0 hx1 hW0 hz hz0
  go_enter Try.func35, Try.ntmps35
  go_upto_region 1 with fail
  rw [← HW.out]
  clear HW
  go_wp2_with fail
  refine (HS.out _ (Below.refl _ _)).mono ?_
  rintro en w1 ⟨rfl, hb⟩
  have hx0 := (hb.block _ l0).trans HX0.out
  have hx1 := (hb.block _ l1).trans HX1.out
  have HB1 := Lib.hid hb
  clear c0 c1 d0 hb
  have HX0b := Lib.hid hx0
  have HX1b := Lib.hid hx1
  obtain ⟨c0, c1, _, _, k0⟩ := cellsN hx0
  obtain ⟨d0, _, k1⟩ := cells1 hx1
  clear hx0 hx1
  have n1a : w.heap.size ≠ w1.heap.size := by omega
  have n1b := Ne.symm n1a
  go_upto_region 3 with fail
  go_cut [6, 7] (fun v6 v7 wc => v7 = .int .i64 ((bl z.natAbs : Nat) : Int) ∧ ∃ bs, v6 = .pointer (some ⟨bs, 0, none⟩) ∧ Hid (St w wc q z e mode bs))
  case first =>
    go_region_held3 (fun w' => w'.cell? ⟨w.heap.size, 0, none⟩ = some (.pointer (some ⟨q, 0, none⟩)) ∧ w'.cell? ⟨w.heap.size, 1, none⟩ = some (.int .i64 e)) (go_keep)
      (first
        | (go_at_call 63; (first
          | (refine (HS.out _ (Go.Proofs.YtjddhnjjeomfjaaW.PrintWords.below_alloc HB3.out _)).mono ?_; rintro en w2 ⟨rfl, hb⟩; have hb2 := below_then (Go.Proofs.YtjddhnjjeomfjaaW.PrintWords.below_alloc HB3.out _) hb; have hs := (hb.block w3.heap.size (by simp)).trans (newAt _ _); obtain ⟨s0, s1, s2⟩ := cells1 hs; have HS2 := Lib.hid hs; have hx0 := (hb2.block _ l0).trans HX0.out; obtain ⟨c0, c1, _, _, k0⟩ := cellsN hx0; have HB2 := Lib.hid hb2; have n2a : w.heap.size ≠ w2.heap.size := (by have := hb2.size; omega); have n2b := Ne.symm n2a; clear hb hb2 hx0 hs)
          | (refine (HS.out _ HB3.out).mono ?_; rintro en w2 ⟨rfl, hb⟩; have hb2 := below_then HB3.out hb; have hs := (hb.block _ (cells1 HS3.out).2.2).trans HS3.out; obtain ⟨s0, s1, s2⟩ := cells1 hs; have HS2 := Lib.hid hs; have hx0 := (hb2.block _ l0).trans HX0.out; obtain ⟨c0, c1, _, _, k0⟩ := cellsN hx0; have HB2 := Lib.hid hb2; have n2a : w.heap.size ≠ w2.heap.size := (by have := hb2.size; omega); have n2b := Ne.symm n2a; clear hb hb2 hx0 hs)
          | (refine (HS.out _ HB3.out).mono ?_; rintro en w2 ⟨rfl, hb⟩; have hb2 := below_then HB3.out hb; have hx0 := (hb2.block _ l0).trans HX0.out; obtain ⟨c0, c1, _, _, k0⟩ := cellsN hx0; have HB2 := Lib.hid hb2; have n2a : w.heap.size ≠ w2.heap.size := (by have := hb2.size; omega); have n2b := Ne.symm n2a; clear hb hb2 hx0)
          | (refine (HS.out _ (Go.Proofs.YtjddhnjjeomfjaaW.PrintWords.below_alloc HB1.out.drew _)).mono ?_; rintro en w2 ⟨rfl, hb⟩; have hb2 := below_then (Go.Proofs.YtjddhnjjeomfjaaW.PrintWords.below_alloc HB1.out.drew _) hb; have hs := (hb.block w1.heap.size (by simp)).trans (newAt _ _); obtain ⟨s0, s1, s2⟩ := cells1 hs; have HS2 := Lib.hid hs; have hx0 := (hb2.block _ l0).trans HX0.out; obtain ⟨c0, c1, _, _, k0⟩ := cellsN hx0; have HB2 := Lib.hid hb2; have n2a : w.heap.size ≠ w2.heap.size := (by have := hb2.size; omega); have n2b := Ne.symm n2a; clear hb hb2 hx0 hs)
          | (refine (HS.out _ HB1.out.drew).mono ?_; rintro en w2 ⟨rfl, hb⟩; have hb2 := below_then HB1.out.drew hb; have hs := (hb.block _ (cells1 HS3.out).2.2).trans HS3.out; obtain ⟨s0, s1, s2⟩ := cells1 hs; have HS2 := Lib.hid hs; have hx0 := (hb2.block _ l0).trans HX0.out; obtain ⟨c0, c1, _, _, k0⟩ := cellsN hx0; have HB2 := Lib.hid hb2; have n2a : w.heap.size ≠ w2.heap.size := (by have := hb2.size; omega); have n2b := Ne.symm n2a; clear hb hb2 hx0 hs)
          | (refine (HS.out _ HB1.out.drew).mono ?_; rintro en w2 ⟨rfl, hb⟩; have hb2 := below_then HB1.out.drew hb; have hx0 := (hb2.block _ l0).trans HX0.out; obtain ⟨c0, c1, _, _, k0⟩ := cellsN hx0; have HB2 := Lib.hid hb2; have n2a : w.heap.size ≠ w2.heap.size := (by have := hb2.size; omega); have n2b := Ne.symm n2a; clear hb hb2 hx0)))
        | (go_at_call 64; (first
          | (refine (HL.out _ (Go.Proofs.YtjddhnjjeomfjaaW.PrintWords.below_alloc HB2.out _)).mono ?_; rintro en w3 ⟨rfl, hd⟩; have hb := tells_below hd; clear hd; have hb2 := below_then (Go.Proofs.YtjddhnjjeomfjaaW.PrintWords.below_alloc HB2.out _) hb; have hs := (hb.block w2.heap.size (by simp)).trans (newAt _ _); obtain ⟨s0, s1, s2⟩ := cells1 hs; have HS3 := Lib.hid hs; have hx0 := (hb2.block _ l0).trans HX0.out; obtain ⟨c0, c1, _, _, k0⟩ := cellsN hx0; have HB3 := Lib.hid hb2; have n3a : w.heap.size ≠ w3.heap.size := (by have := hb2.size; omega); have n3b := Ne.symm n3a; clear hb hb2 hx0 hs)
          | (refine (HL.out _ HB2.out).mono ?_; rintro en w3 ⟨rfl, hd⟩; have hb := tells_below hd; clear hd; have hb2 := below_then HB2.out hb; have hs := (hb.block _ (cells1 HS2.out).2.2).trans HS2.out; obtain ⟨s0, s1, s2⟩ := cells1 hs; have HS3 := Lib.hid hs; have hx0 := (hb2.block _ l0).trans HX0.out; obtain ⟨c0, c1, _, _, k0⟩ := cellsN hx0; have HB3 := Lib.hid hb2; have n3a : w.heap.size ≠ w3.heap.size := (by have := hb2.size; omega); have n3b := Ne.symm n3a; clear hb hb2 hx0 hs)
          | (refine (HL.out _ HB2.out).mono ?_; rintro en w3 ⟨rfl, hd⟩; have hb := tells_below hd; clear hd; have hb2 := below_then HB2.out hb; have hx0 := (hb2.block _ l0).trans HX0.out; obtain ⟨c0, c1, _, _, k0⟩ := cellsN hx0; have HB3 := Lib.hid hb2; have n3a : w.heap.size ≠ w3.heap.size := (by have := hb2.size; omega); have n3b := Ne.symm n3a; clear hb hb2 hx0)
          | (refine (HL.out _ (Go.Proofs.YtjddhnjjeomfjaaW.PrintWords.below_alloc HB1.out.drew _)).mono ?_; rintro en w3 ⟨rfl, hd⟩; have hb := tells_below hd; clear hd; have hb2 := below_then (Go.Proofs.YtjddhnjjeomfjaaW.PrintWords.below_alloc HB1.out.drew _) hb; have hs := (hb.block w1.heap.size (by simp)).trans (newAt _ _); obtain ⟨s0, s1, s2⟩ := cells1 hs; have HS3 := Lib.hid hs; have hx0 := (hb2.block _ l0).trans HX0.out; obtain ⟨c0, c1, _, _, k0⟩ := cellsN hx0; have HB3 := Lib.hid hb2; have n3a : w.heap.size ≠ w3.heap.size := (by have := hb2.size; omega); have n3b := Ne.symm n3a; clear hb hb2 hx0 hs)
          | (refine (HL.out _ HB1.out.drew).mono ?_; rintro en w3 ⟨rfl, hd⟩; have hb := tells_below hd; clear hd; have hb2 := below_then HB1.out.drew hb; have hs := (hb.block _ (cells1 HS2.out).2.2).trans HS2.out; obtain ⟨s0, s1, s2⟩ := cells1 hs; have HS3 := Lib.hid hs; have hx0 := (hb2.block _ l0).trans HX0.out; obtain ⟨c0, c1, _, _, k0⟩ := cellsN hx0; have HB3 := Lib.hid hb2; have n3a : w.heap.size ≠ w3.heap.size := (by have := hb2.size; omega); have n3b := Ne.symm n3a; clear hb hb2 hx0 hs)
          | (refine (HL.out _ HB1.out.drew).mono ?_; rintro en w3 ⟨rfl, hd⟩; have hb := tells_below hd; clear hd; have hb2 := below_then HB1.out.drew hb; have hx0 := (hb2.block _ l0).trans HX0.out; obtain ⟨c0, c1, _, _, k0⟩ := cellsN hx0; have HB3 := Lib.hid hb2; have n3a : w.heap.size ≠ w3.heap.size := (by have := hb2.size; omega); have n3b := Ne.symm n3a; clear hb hb2 hx0))))
    all_goals go_wp2_with fail
    all_goals go_meet
    all_goals
      have hb3 := HB3.out
      have hx0 := (hb3.block _ l0).trans HX0.out
      have hx1 := (hb3.block _ l1).trans HX1.out
      have hz3 := HZ0.out.below hb3
      have hbw := below_then HB0.out hb3
    all_goals first
      | exact ⟨rfl, _, rfl, Lib.hid (St.new hx0 hx1 hz3 hbw)⟩
      | exact ⟨rfl, _, rfl, Lib.hid (St.set hx0 hx1 hz3 hbw HS3.out (by have := HB1.out.size; omega))⟩
      | exact ⟨rfl, _, rfl, Lib.hid (St.set hx0 hx1 hz3 hbw HS3.out (by have := HB2.out.size; omega))⟩
  case rest =>
    obtain ⟨rfl, bs, rfl, HST⟩ := hcut
    clear c0 c1 d0 n1a n1b HX0b HX1b HX0 HX1 HZ0 HB0 HB1 HS HL l0 l1 hs0 k0 k1
    have stay := Lib.hid (fun (W : World) (hb : Below wc.heap.size wc W) => St.cells HST.out hb)
    have hmf : ∀ (fn : Fn) (first cap : Array Value) (w : World), (Instr.makeFunc fn first cap).run Try.prog w = .ok (.func fn first cap) w := fun _ _ _ _ => rfl
    have hs1 : sgn z = 1 ∨ sgn z = -1 := by unfold Pm.sgn; split <;> (try split) <;> omega
    obtain ⟨⟨c0, c1⟩, d0, e0, hz, hbw⟩ := stay.out wc (Below.refl _ _)
    have HO := Lib.hid (fun (W : World) (hb : Below wc.heap.size wc W) => cOver (stay.out W hb).2.1 (stay.out W hb).2.2.1 hs1 ⟨h4, h5⟩)
    by_cases hov : 128 < (bl z.natAbs : Int) + e
    · have hr : rnd z e mode = (ovr (sgn z) mode, 5) := by
        unfold rnd
        rw [if_neg h0, if_pos hov]
      have HR := Lib.hid hr
      have HBW := Lib.hid hbw
      clear hr hz hbw hs1
      go_wp2_with fail
      refine (HO.out _ (Below.refl _ _)).mono ?_
      rintro en w5 ⟨rfl, rfl⟩
      go_wp2
      go_ret2
      exact ⟨by rw [HR.out]; rfl, HBW.out⟩
    · have HOV := Lib.hid hov
      have hov1 : (bl z.natAbs : Int) + e ≤ 128 := by omega
      obtain ⟨Q, hQ⟩ : ∃ Q, Q = rq (bl z.natAbs) e := ⟨_, rfl⟩
      have HQ := Lib.hid hQ
      have q1 : (bl z.natAbs : Int) + e - 24 < -149 → Q = -149 := fun h => by rw [hQ]; unfold rq; rw [if_pos h]
      have q2 : ¬ (bl z.natAbs : Int) + e - 24 < -149 → Q = (bl z.natAbs : Int) + e - 24 := fun h => by rw [hQ]; unfold rq; rw [if_neg h]
      clear hov hQ
      have HQ1 := Lib.hid q1
      have HQ2 := Lib.hid q2
      have HZ := Lib.hid hz
      have HBW := Lib.hid hbw
      clear q1 q2 hz hbw
      go_upto_region 7 with fail
      go_cut [9] (fun v9 wx => v9 = .int .i64 Q ∧ wx = wc)
      case first =>
        rcases Int.lt_trichotomy ((bl z.natAbs : Int) + e - 24) (-149) with h | h | h
        all_goals go_wp2
        all_goals go_meet
        · exact ⟨by rw [HQ1.out (by omega)], rfl⟩
        · exact ⟨by rw [HQ2.out (by omega), h], rfl⟩
        · exact ⟨by rw [HQ2.out (by omega)], rfl⟩
      case rest =>
        obtain ⟨rfl, rfl⟩ := hcut
        have HA := Lib.hid (fun (W : World) (hb : Below wc.heap.size wc W) => Me.abs (Z.new W).blk ((stay.out W hb).2.2.2.1.below (Ma.below_alloc W _)) (by omega))
        have l0 : w.heap.size < wc.heap.size := blk_lt HST.out.1
        have l1 : w.heap.size + 1 < wc.heap.size := blk_lt HST.out.2.1
        have l2 : bs < wc.heap.size := blk_lt HST.out.2.2.1
        go_wp2_with fail
        refine (HA.out wc (Below.refl _ _)).mono ?_
        rintro en w5 ⟨rfl, hza, hga⟩
        have HS5 := Lib.hid ((Hs.nil wc).new.put hza hga)
        clear c0 c1 d0 e0 hza hga
        go_upto_region 11 with fail
        have HT := Lib.hid (Hs.new HS5.out)
        clear HS5
        generalize hW : w5.alloc (.cells #[.bool false, .slice none 0 0] 89) = w6 at HT ⊢
        clear hW
        generalize hT : w5.heap.size = T at HT ⊢
        clear hT
        obtain ⟨⟨c0, c1⟩, d0, e0, -, -⟩ := stay.out w6 HT.out.1
        have hq0 : -149 ≤ Q := by have h := HQ.out; rw [h]; exact (Rf.rq_bd _ _).1
        have hq1 : Q ≤ 104 := by have h := HQ.out; rw [h]; exact Rf.rq_le hov1
        have hnn : bl ((z.natAbs : Nat) : Int).natAbs ≤ 1000000 := by rw [Int.natAbs_natCast]; exact h1
        go_upto_if 50 with fail
        go_cut [11] (fun v11 wx => v11 = .int .i64 (rt z e mode).2 ∧ Hid (Hs wc wx [(T, ((rt z e mode).1 : Int)), (wc.heap.size, (z.natAbs : Int))]))
        case first =>
          by_cases hge : Q ≤ e
          · have ek : e - Q = ((e - Q).toNat : Int) := by omega
            have HL := Lib.hid (ek.symm ▸ Md.lsh (n := (e - Q).toNat) (HT.out.get (.head _)).blk (HT.out.get (.tail _ (.head _))) (by omega) (by omega))
            have HRT := Lib.hid (rt_up (mode := mode) HQ.out hge)
            clear ek
            go_wp2_with fail
            refine HL.out.mono ?_
            rintro en w7 ⟨rfl, hz7, hg7⟩
            have H7 := Lib.hid (HT.out.put hz7 hg7)
            clear hz7 hg7
            go_wp2_with fail
            go_meet
            rw [HRT.out]
            have h7 := H7.out
            rw [show (z.natAbs : Int) * 2 ^ (e - Q).toNat = ((z.natAbs * 2 ^ (e - Q).toNat : Nat) : Int) by push_cast; rfl] at h7
            exact ⟨rfl, Lib.hid h7⟩
          · obtain ⟨k, hk⟩ : ∃ k : Nat, (k : Int) = Q - e := ⟨(Q - e).toNat, by omega⟩
            have hk1 : 1 ≤ k := by omega
            have hk2 : k ≤ 2000000 := by omega
            have HR := Lib.hid (hk ▸ Mk.rsh (n := k) (HT.out.get (.head _)).blk (HT.out.get (.tail _ (.head _))) (by omega) (by omega))
            have hbd := bl_div z.natAbs k
            have hbm := bl_mod z.natAbs k
            have hpw : bl (2 ^ (k - 1)) ≤ k := by rw [← Nat.one_mul (2 ^ (k - 1)), bl_shift (by decide)]; show 1 + (k - 1) ≤ k; omega
            go_wp2_with fail
            refine HR.out.mono ?_
            rintro en w7 ⟨rfl, hz7, hg7⟩
            have h7 := HT.out.put hz7 hg7
            rw [show (z.natAbs : Int) / 2 ^ k = ((z.natAbs / 2 ^ k : Nat) : Int) by push_cast; rfl] at h7
            clear hz7 hg7 HR c0 c1 d0 e0
            have h9 := h7.new.new
            rw [Mu.alloc_size] at h9
            have HL := Lib.hid (hk ▸ Md.lsh (n := k) (h9.get (.head _)).blk (h9.get (.tail _ (.tail _ (.head _)))) (by rw [Int.natAbs_natCast]; omega) (by omega))
            have H9 := Lib.hid h9
            clear h7 h9
            go_wp2_with fail
            refine HL.out.mono ?_
            rintro en w10 ⟨rfl, hz, hg⟩
            have h10 := (H9.out.put hz hg).swap
            have HSB := Lib.hid (Mj.sub (h10.get (.head _)).blk (h10.get (.tail _ (.tail _ (.tail _ (.head _))))) (h10.get (.tail _ (.head _))) (by omega) (by rw [Rf.natAbs_two, Int.natAbs_natCast]; exact Nat.le_trans (bl_mono (Nat.div_mul_le_self _ _)) (by omega)))
            have H10 := Lib.hid h10
            clear h10 hz hg HL H9
            go_wp2_with fail
            refine HSB.out.mono ?_
            rintro en w11 ⟨rfl, hz, hg⟩
            have h11 := (H10.out.put hz hg).drop2
            rw [show ((z.natAbs / 2 ^ k : Nat) : Int) = (z.natAbs : Int) / 2 ^ k by push_cast; rfl, rest_of] at h11
            rw [show (z.natAbs : Int) / 2 ^ k = ((z.natAbs / 2 ^ k : Nat) : Int) by push_cast; rfl] at h11
            clear hz hg HSB H10
            generalize w7.heap.size = R at h11 ⊢
            have HSG := Lib.hid (Me.sign (h11.get (.head _)))
            have H11 := Lib.hid h11
            obtain ⟨⟨c0, c1⟩, d0, e0, -, -⟩ := stay.out w11 h11.1
            clear h11
            by_cases hr : z.natAbs % 2 ^ k = 0
            · have HRT := Lib.hid (rt_exact (mode := mode) HQ.out (by omega) hk hr)
              rw [hr] at HSG
              go_wp2_with fail
              refine HSG.out.mono ?_
              rintro en w12 ⟨rfl, rfl⟩
              go_wp2_with fail
              go_meet
              rw [HRT.out]
              exact ⟨rfl, Lib.hid H11.out.tail⟩
            · have HRT := Lib.hid (rt_cut (mode := mode) HQ.out (by omega) hk hr)
              rw [sgn_nat hr] at HSG
              go_wp2_with fail
              refine HSG.out.mono ?_
              rintro en w12 ⟨rfl, rfl⟩
              go_upto_if 82 with fail
              obtain ⟨F, hF⟩ : ∃ F : Int, F = if (bl z.natAbs : Int) + e ≤ -126 then 3 else 1 := ⟨_, rfl⟩
              have HF := Lib.hid hF
              rw [← hF] at HRT
              clear hF
              go_cut [11] (fun v11 wx => v11 = .int .i64 F ∧ wx = w11)
              case first =>
                by_cases ht : (bl z.natAbs : Int) + e ≤ -126
                · go_wp2_with fail
                  go_meet
                  rw [HF.out, if_pos ht]
                  exact ⟨rfl, rfl⟩
                · go_wp2_with fail
                  go_meet
                  rw [HF.out, if_neg (by omega)]
                  exact ⟨rfl, rfl⟩
              case rest =>
                obtain ⟨rfl, rfl⟩ := hcut
                have h12 := H11.out.new
                obtain ⟨⟨c0, c1⟩, d0, e0, -, -⟩ := stay.out _ h12.1
                have HN := Lib.hid (fun (W : World) => Mc.newInt (w := W) (n := 1) (by decide) (by decide))
                have H12 := Lib.hid h12
                clear h12
                go_wp2_with fail
                refine (HN.out _).mono ?_
                rintro en w13 ⟨g, rfl, hz, hgl, hb⟩
                have h13 := (H12.out.news hz hgl hb).swap
                have hk3 : (Q - e - 1) = ((k - 1 : Nat) : Int) := by omega
                have HL := Lib.hid (hk3.symm ▸ Md.lsh (n := k - 1) (h13.get (.head _)).blk (h13.get (.tail _ (.head _))) (by decide) (by omega))
                have H13 := Lib.hid h13
                clear h13 hz hgl hb H12 hk3
                go_wp2_with fail
                refine HL.out.mono ?_
                rintro en w14 ⟨rfl, hz, hg⟩
                have h14 := (H13.out.put hz hg).drop2.swap
                rw [show (1 : Int) * 2 ^ (k - 1) = ((2 ^ (k - 1) : Nat) : Int) by push_cast; rw [Int.one_mul]] at h14
                have hC := Mi.cmp (h14.get (.head _)) (h14.get (.tail _ (.head _))) (by rw [Int.natAbs_natCast]; omega) (by rw [Int.natAbs_natCast]; omega)
                obtain ⟨hf, hhf⟩ : ∃ hf, hf = sgn (((z.natAbs % 2 ^ k : Nat) : Int) - ((2 ^ (k - 1) : Nat) : Int)) := ⟨_, rfl⟩
                rw [← hhf] at hC
                have HC := Lib.hid hC
                have HHF := Lib.hid hhf
                clear hC hhf
                have H14 := Lib.hid h14
                clear h14 hz hg HL H13
                go_wp2_with fail
                refine HC.out.mono ?_
                rintro en w15 ⟨rfl, hd⟩
                have h15 := ((H14.out.below (tells_below hd)).tail.tail)
                obtain ⟨⟨c0, c1⟩, d0, e0, -, -⟩ := stay.out _ h15.1
                have H15 := Lib.hid h15
                clear h15 hd H14 HC
                go_upto_block 0 with fail
                obtain ⟨U, hU⟩ : ∃ U : Bool, U = ups mode (sgn z) (z.natAbs / 2 ^ k) (z.natAbs % 2 ^ k) (2 ^ (k - 1)) := ⟨_, rfl⟩
                rw [← hU] at HRT
                have HU := Lib.hid hU
                clear hU
                go_cut [16] (fun v16 wx => v16 = .bool U ∧ wx = w15)
                case first =>
                  have hbit := Nb.bit (i := 0) (H15.out.get (.head _)) (by decide)
                  have hm5 : mode = 0 ∨ mode = 1 ∨ mode = 2 ∨ mode = 3 ∨ mode = 4 := by omega
                  have HB := Lib.hid hbit
                  have hsc := sgn_cases (((z.natAbs % 2 ^ k : Nat) : Int) - ((2 ^ (k - 1) : Nat) : Int))
                  rw [← HHF.out] at hsc
                  clear hbit
                  rcases hm5 with rfl | rfl | rfl | rfl | rfl
                  · rw [Int.natAbs_natCast, Nat.pow_zero, Nat.div_one] at HB
                    rcases hsc with ⟨hc, hs⟩ | ⟨hc, hs⟩ | ⟨hc, hs⟩
                    · subst hs
                      have hu : U = true := by rw [HU.out, ups0, decide_eq_true (by omega)]
                      clear hc HHF
                      go_wp2_with fail
                      go_meet
                      exact ⟨by rw [hu], rfl⟩
                    · subst hs
                      have hu : U = decide (z.natAbs / 2 ^ k % 2 = 1) := by rw [HU.out, ups0]; congr 1; exact propext ⟨fun h => by omega, fun h => by omega⟩
                      clear hc HHF
                      rcases Nat.mod_two_eq_zero_or_one (z.natAbs / 2 ^ k) with hb | hb
                      · rw [hb] at HB
                        have hu2 : U = false := by rw [hu, hb]; rfl
                        clear hu hb
                        go_wp2_with (first | (go_at_call 74; refine HB.out.mono ?_; rintro en w16 ⟨rfl, rfl⟩))
                        go_meet
                        exact ⟨by rw [hu2], rfl⟩
                      · rw [hb] at HB
                        have hu2 : U = true := by rw [hu, hb]; rfl
                        clear hu hb
                        go_wp2_with (first | (go_at_call 74; refine HB.out.mono ?_; rintro en w16 ⟨rfl, rfl⟩))
                        go_meet
                        exact ⟨by rw [hu2], rfl⟩
                    · subst hs
                      have hu : U = false := by rw [HU.out, ups0, decide_eq_false (by omega)]
                      clear hc HHF
                      go_wp2_with fail
                      go_meet
                      exact ⟨by rw [hu], rfl⟩
                  · have hu : U = decide (sgn z < 0) := by rw [HU.out, ups1]
                    clear hsc
                    go_wp2_with fail
                    go_meet
                    exact ⟨by rw [hu], rfl⟩
                  · have hu : U = decide (0 < sgn z) := by rw [HU.out, ups2]
                    clear hsc
                    go_wp2_with fail
                    go_meet
                    exact ⟨by rw [hu], rfl⟩
                  · have hu : U = false := by rw [HU.out, ups3]
                    clear hsc
                    go_wp2_with fail
                    go_meet
                    exact ⟨by rw [hu], rfl⟩
                  · have hu : U = true := by rw [HU.out, ups4]
                    clear hsc
                    go_wp2_with fail
                    go_meet
                    exact ⟨by rw [hu], rfl⟩
                case rest =>
                  obtain ⟨rfl, rfl⟩ := hcut
                  cases hu : U with
                  | false =>
                    subst hu
                    rw [if_neg (by decide)] at HRT
                    go_wp2_with fail
                    go_meet
                    rw [HRT.out]
                    exact ⟨rfl, H15⟩
                  | true =>
                    subst hu
                    rw [if_pos rfl] at HRT
                    go_wp2_with fail
                    refine (HN.out _).mono ?_
                    rintro en w16 ⟨g6, rfl, hz, hgl, hb⟩
                    have h16 := (H15.out.news hz hgl hb).swap
                    have HAD := Lib.hid (Mj.add (h16.get (.head _)).blk (h16.get (.head _)) (h16.get (.tail _ (.head _))) (by rw [Int.natAbs_natCast]; omega) (by decide))
                    have H16 := Lib.hid h16
                    clear h16 hz hgl hb
                    go_wp2_with fail
                    refine HAD.out.mono ?_
                    rintro en w17 ⟨rfl, hz, hg⟩
                    have h17 := (H16.out.put hz hg).drop2
                    rw [show ((z.natAbs / 2 ^ k : Nat) : Int) + 1 = ((z.natAbs / 2 ^ k + 1 : Nat) : Int) by push_cast; rfl] at h17
                    have H17 := Lib.hid h17
                    clear h17 hz hg HAD H16
                    go_wp2_with fail
                    go_meet
                    rw [HRT.out]
                    exact ⟨rfl, H17⟩
        case rest =>
          obtain ⟨rfl, HX⟩ := hcut
          have htl := Rf.rt_le z e mode
          have hR1 : 128 < (bl (rt z e mode).1 : Int) + Q → rnd z e mode = (ovr (sgn z) mode, 5) := fun h => by
            have hov := HOV.out
            rw [HQ.out] at h
            unfold rnd
            rw [if_neg h0, if_neg (by omega), if_pos h]
          have hR2 : ¬ 128 < (bl (rt z e mode).1 : Int) + Q → rnd z e mode = (Ieee.single.nearest (decide (z < 0)) (rt z e mode).1 Q, (rt z e mode).2) := fun h => by
            have hov := HOV.out
            rw [HQ.out] at h ⊢
            unfold rnd
            rw [if_neg h0, if_neg (by omega), if_neg h]
          have HR1 := Lib.hid hR1
          have HR2 := Lib.hid hR2
          clear hR1 hR2 c0 c1 d0 e0
          generalize (rt z e mode).1 = t at *
          generalize (rt z e mode).2 = F at *
          have hbt : bl t ≤ 25 := bl_le (by omega)
          have hBL := Me.bitLen (HX.out.get (.head _)) (by rw [Int.natAbs_natCast]; omega)
          rw [Int.natAbs_natCast] at hBL
          have HBL := Lib.hid hBL
          clear hBL
          by_cases hov2 : 128 < (bl t : Int) + Q
          · have HR := Lib.hid (HR1.out hov2)
            clear HR1 HR2
            go_wp2_with fail
            refine HBL.out.mono ?_
            rintro en w8 ⟨rfl, hd⟩
            have H8 := Lib.hid (HX.out.below (tells_below hd))
            clear hd
            go_wp2_with fail
            refine (HO.out _ H8.out.1).mono ?_
            rintro en w9 ⟨rfl, rfl⟩
            go_wp2
            go_ret2
            exact ⟨by rw [HR.out]; rfl, (stay.out _ H8.out.1).2.2.2.2⟩
          · have HR := Lib.hid (HR2.out hov2)
            have HNG := Lib.hid (negT htl hq0 (by omega) hq1)
            have HC := Lib.hid (fun (r : Nat) (h : IsN Ieee.double r false (V t Q)) (W : World) => convT h htl hq0 (by omega) hq1 W)
            have HLD := Lib.hid (fun (W : World) => ldexpT htl hq0 hq1 W)
            clear HR1 HR2
            go_wp2_with fail
            refine HBL.out.mono ?_
            rintro en w8 ⟨rfl, hd⟩
            have H8 := Lib.hid (HX.out.below (tells_below hd))
            have HI := Lib.hid (Mk.int64 (H8.out.get (.head _)) (by omega) (by omega))
            obtain ⟨⟨c0, c1⟩, d0, e0, -, -⟩ := stay.out _ H8.out.1
            clear hd
            go_wp2_with fail
            refine HI.out.mono ?_
            rintro en w9 ⟨rfl, rfl⟩
            go_wp2_with fail
            refine (HLD.out _).mono ?_
            rintro en w9 ⟨⟨r, rfl, hr⟩, rfl⟩
            have hc := HC.out r hr
            clear hr
            rcases hs1 with hs1 | hs1
            · rw [hs1] at e0
              have hz : ¬ z < 0 := by have := sgn_cases z; omega
              have HR' := Lib.hid (show rnd z e mode = (Ieee.single.nearest false t Q, F) by rw [HR.out, decide_eq_false hz])
              clear hz
              go_wp2
              go_ret2
              exact ⟨by rw [HR'.out]; rfl, (stay.out _ H8.out.1).2.2.2.2⟩
            · rw [hs1] at e0
              have hz : z < 0 := by have := sgn_cases z; omega
              have HR' := Lib.hid (show rnd z e mode = (Ieee.single.nearest true t Q, F) by rw [HR.out, decide_eq_true hz])
              clear hz
              go_wp2
              go_ret2
              exact ⟨by rw [HR'.out, ← HNG.out]; rfl, (stay.out _ H8.out.1).2.2.2.2⟩
end Go.Proofs.Ytjddhnjjeomfjaa.Nr
end
section
set_option linter.unusedVariables false
set_option linter.unusedSimpArgs false
namespace Go.Proofs.Ytjddhnjjeomfjaa.Sr
open Go.RowKit Go.Proofs.YtjddhnjjeomfjaaW.PrintWords Go.Proofs.YtjddhnjjeomfjaaW.PrintMore Go.Proofs.Ytjddhnjjeomfjaa.PW Go.Proofs.Ytjddhnjjeomfjaa.Pb Go.Proofs.Ytjddhnjjeomfjaa.Pc Go.Proofs.Ytjddhnjjeomfjaa.Pm Go.Proofs.Ytjddhnjjeomfjaa.Pw Go.Proofs.Ytjddhnjjeomfjaa.Ps Go.Proofs.Ytjddhnjjeomfjaa.Px Go.Proofs.Ytjddhnjjeomfjaa.Ma Go.Proofs.Ytjddhnjjeomfjaa.Mh Go.Proofs.Ytjddhnjjeomfjaa.Mu Go.Proofs.Ytjddhnjjeomfjaa.Na Go.Proofs.Ytjddhnjjeomfjaa.Nd Go.Proofs.Ytjddhnjjeomfjaa.Re Go.Proofs.Ytjddhnjjeomfjaa.Rf Go.Proofs.Ytjddhnjjeomfjaa.Ve Go.Proofs.Ytjddhnjjeomfjaa.We Go.Proofs.Ytjddhnjjeomfjaa.Nr Dg Fp
theorem limb_mul {x m : Nat} (hx : IsN Ieee.double x false (V m 0)) (hm : m ≤ 16777216) : ∃ r, Ieee.double.mul x 4715268809856909312 = some r ∧ IsN Ieee.double r false (V (m * 16777216) 0) := by
  obtain ⟨r, h1, h2⟩ := mul_isN (f := Ieee.double) (m := m * 16777216) (e := 0) (by decide) hx c24 ⟨by rw [bi64]; omega, by rw [lp64]; decide, by rw [top64]; decide⟩ (by rw [V_mul (by decide) (by decide) (by decide)]; rfl)
  exact ⟨r, h1, by simpa using h2⟩
theorem limb_add {x y m n : Nat} (hx : IsN Ieee.double x false (V m 0)) (hy : IsN Ieee.double y false (V n 0)) (hm : m + n < 9007199254740992) : ∃ r, Ieee.double.add x y = some r ∧ IsN Ieee.double r false (V (m + n) 0) := by
  have hv : sv false (V m 0) + sv false (V n 0) = ((V (m + n) 0 : Nat) : Int) := by
    rw [V_U, V_U, V_U, Nat.add_mul]
    simp only [sv]
    push_cast
    rfl
  obtain ⟨r, h1, h2⟩ := add_isN (f := Ieee.double) (m := m + n) (e := 0) hK64 hx hy ⟨by rw [bi64]; omega, by rw [lp64]; decide, by rw [top64]; decide⟩ (by rw [hv]; rfl)
  refine ⟨r, h1, ?_⟩
  rw [hv] at h2
  rw [decide_eq_false (by omega)] at h2
  simpa using h2
theorem limb_step (t k : Nat) : t / 16777216 ^ (k + 1) * 16777216 + t / 16777216 ^ k % 16777216 = t / 16777216 ^ k := by
  rw [Nat.pow_succ, ← Nat.div_div_eq_div_mul]
  have := Nat.div_add_mod (t / 16777216 ^ k) 16777216
  omega
theorem limbs_end {t k : Nat} (h : (L t).length ≤ k) : t / 16777216 ^ k = 0 := by
  have h1 := (L_len_iff t k).1 h
  have h2 := bl_iff.1 h1
  rw [Nat.pow_mul] at h2
  exact Nat.div_eq_of_lt h2
theorem bl_rt {z e mode : Int} (h0 : z ≠ 0) : (bl z.natAbs : Int) + e ≤ (bl (rt z e mode).1 : Int) + rq (bl z.natAbs) e := by
  unfold rt
  generalize rq (bl z.natAbs) e = Q
  by_cases hA : Q ≤ e
  · rw [if_pos hA]
    show _ ≤ ((bl (z.natAbs * 2 ^ (e - Q).toNat) : Nat) : Int) + Q
    rw [bl_shift (by omega)]; omega
  · rw [if_neg hA]
    have key : ∀ t, z.natAbs / 2 ^ (Q - e).toNat ≤ t → (bl z.natAbs : Int) + e ≤ (bl t : Int) + Q := fun t ht => by
      have h1 : z.natAbs / 2 ^ (Q - e).toNat < 2 ^ bl t := Nat.lt_of_le_of_lt ht (bl_iff.1 (Nat.le_refl _))
      have h2 := (Nat.div_lt_iff_lt_mul (Nat.two_pow_pos _)).1 h1
      rw [← Nat.pow_add] at h2
      have := bl_iff.2 h2
      omega
    split
    · exact key _ (Nat.le_refl _)
    · exact key _ (Nat.le_add_right _ _)
theorem zero64 : IsN Ieee.double 0 false (V 0 0) := by
  have h0 := isN_word (f := Ieee.double) (m := 0) (e := -1074) false ⟨by rw [bi64]; decide, by rw [lp64]; decide, .inl (by rw [lp64])⟩ (by decide)
  rw [V_zero] at h0 ⊢
  exact h0
theorem stay2 {w W0 W2 : World} {A A1 : Option Addr} {n c m d1 g : Nat} {s e s1 : Int} {l : List Int} (hb0 : Below w.heap.size w W0) (hx0 : W0.heap[w.heap.size]? = some (.cells #[.int .i64 s, .slice A n c, .int .i64 e] 33 (0, 0))) (hb2 : Below W0.heap.size W0 W2)
    (hx2 : W2.heap[g]? = some (.cells #[.int .i64 s1, .slice A1 m d1] 31 (0, 0))) (hC : (Kd.int .i64).C W2 A1 l.length l) : ∀ W, Below W2.heap.size W2 W →
    (W.cell? ⟨w.heap.size, 0, none⟩ = some (.int .i64 s) ∧ W.cell? ⟨w.heap.size, 1, none⟩ = some (.slice A n c) ∧ W.cell? ⟨w.heap.size, 2, none⟩ = some (.int .i64 e)) ∧ (W.cell? ⟨g, 0, none⟩ = some (.int .i64 s1) ∧ W.cell? ⟨g, 1, none⟩ = some (.slice A1 m d1)) ∧ (Kd.int .i64).C W A1 l.length l ∧ Below W0.heap.size W0 W ∧ Below w.heap.size w W := fun W hb => by
  have h2 := below_then hb2 hb
  obtain ⟨c0, c1, c2, _⟩ := cellsD ((h2.block _ (blk_lt hx0)).trans hx0)
  obtain ⟨d0, d1, _⟩ := cellsN ((hb.block _ (blk_lt hx2)).trans hx2)
  exact ⟨⟨c0, c1, c2⟩, ⟨d0, d1⟩, C_at hC hb, h2, below_then hb0 h2⟩
set_option maxRecDepth 20000 in
set_option maxHeartbeats 1600000 in
theorem sround {w : World} {A : Option Addr} {c : Nat} {z e mode : Int} (h0 : z ≠ 0) (ho : z.natAbs % 2 = 1) (hb : bl z.natAbs ≤ 100000) (h1 : -100000 ≤ e) (h2 : e ≤ 100000) (h3 : 0 ≤ mode) (h4 : mode ≤ 4)
    (hC : (Kd.int .i64).C w A (L z.natAbs).length (L z.natAbs)) (hc : (L z.natAbs).length ≤ c) :
    Calls Try.prog 30 #[.agg #[.int .i64 (sgn z), .slice A (L z.natAbs).length c, .int .i64 e], .int .i64 mode] w fun en w' => en = .returned (.tuple #[.float .f32 (rnd z e mode).1, .int .i64 (rnd z e mode).2]) ∧ Below w.heap.size w w' := by
  obtain ⟨W0, hW0⟩ : ∃ W0, W0 = w.alloc (.cells #[.int .i64 (sgn z), .slice A (L z.natAbs).length c, .int .i64 e] 33) := ⟨_, rfl⟩
  obtain ⟨hb0, hx0, hs0⟩ := boxes1 w (.cells #[.int .i64 (sgn z), .slice A (L z.natAbs).length c, .int .i64 e] 33) W0 (by rw [hW0]; exact Below.refl _ _)
  obtain ⟨K1, hK1⟩ := (Sl.smult h0 ho hb h1 h2 h3 h4).rounds
  obtain ⟨K2, hK2⟩ := (slength (sgn z) z.natAbs (by omega)).rounds
  have htl := rt_le z e mode
  have hQ0 := (rq_bd (bl z.natAbs) e).1
  have hQu : rq (bl z.natAbs) e ≤ 300000 := by unfold rq; split <;> omega
  have hbt : bl (rt z e mode).1 ≤ 25 := bl_le (by omega)
  obtain ⟨K3, hK3⟩ := (slength (sgn ((rt z e mode).1 : Int)) (rt z e mode).1 (by omega)).rounds
  have HM := Lib.hid (fun (W : World) (hb : Below W0.heap.size W0 W) => spec_l03Multiple.calls K1 (sgn z) A c (L z.natAbs) e mode _ _ _ _ W (C_at (C_at hC hb0) hb) hc hK1)
  have HLD := Lib.hid (fun (W : World) (hb : Below W0.heap.size W0 W) => spec_l02Length.calls K2 (sgn z) A c (L z.natAbs) _ W (C_at (C_at hC hb0) hb) hc hK2)
  have HLM := Lib.hid (fun (W : World) (B : Option Addr) (d : Nat) (hB : (Kd.int .i64).C W B (L (rt z e mode).1).length (L (rt z e mode).1)) (hd : (L (rt z e mode).1).length ≤ d) => spec_l02Length.calls K3 (sgn ((rt z e mode).1 : Int)) B d (L (rt z e mode).1) _ W hB hd hK3)
  have hfl : (rt z e mode).2 = if rq (bl z.natAbs) e ≤ e then 0 else if (bl z.natAbs : Int) + e ≤ -126 then 3 else 1 := by
    unfold rt
    by_cases hA : rq (bl z.natAbs) e ≤ e
    · rw [if_pos hA, if_pos hA]
    · rw [if_neg hA, if_neg hA, if_neg (odd_mod ho (by omega))]
  have HFL := Lib.hid hfl
  have hsg : (z < 0 ∧ sgn z = -1) ∨ (¬ z < 0 ∧ sgn z = 1) := by have := sgn_cases z; omega
  have HR1 := Lib.hid (show 128 < (bl z.natAbs : Int) + e → rnd z e mode = (ovr (sgn z) mode, 5) from fun h => by unfold rnd; rw [if_neg h0, if_pos h])
  have HR2 := Lib.hid (show ¬ 128 < (bl z.natAbs : Int) + e → 128 < (bl (rt z e mode).1 : Int) + rq (bl z.natAbs) e → rnd z e mode = (ovr (sgn z) mode, 5) from fun h h' => by unfold rnd; rw [if_neg h0, if_neg h, if_pos h'])
  have HR3 := Lib.hid (show ¬ 128 < (bl z.natAbs : Int) + e → ¬ 128 < (bl (rt z e mode).1 : Int) + rq (bl z.natAbs) e → rnd z e mode = (Ieee.single.nearest (decide (z < 0)) (rt z e mode).1 (rq (bl z.natAbs) e), (rt z e mode).2) from fun h h' => by unfold rnd; rw [if_neg h0, if_neg h, if_neg h'])
  have HB0 := Lib.hid hb0
  have HX0 := Lib.hid hx0
  have HW := Lib.hid hW0
  obtain ⟨c0, c1, c2, _, _, _, l0⟩ := cellsD hx0
  clear hb0 hx0 hW0 hC hc hK1 hK2 hK3 hfl
  generalize (L z.natAbs).length = n at *
  go_enter Try.func30, Try.ntmps30
  go_upto_region 1 with fail
  rw [← HW.out]
  clear HW
  go_wp2_with fail
  refine (HM.out W0 (Below.refl _ _)).mono ?_
  rintro en w1 ⟨u, rfl, hR, hb1⟩
  obtain ⟨A1, d1, rfl⟩ := Kd.R_slice hR
  have HRR := Lib.hid (Kd.R_reads' hR)
  have HB1 := Lib.hid hb1
  clear hb1 hR
  have hle := bl_rt (z := z) (e := e) (mode := mode) h0
  have HOV := Lib.hid (show 128 < (bl (rt z e mode).1 : Int) + rq (bl z.natAbs) e → rnd z e mode = (ovr (sgn z) mode, 5) from fun h => if h' : 128 < (bl z.natAbs : Int) + e then HR1.out h' else HR2.out (by omega) h)
  have HNV := Lib.hid (show (bl (rt z e mode).1 : Int) + rq (bl z.natAbs) e ≤ 128 → rnd z e mode = (Ieee.single.nearest (decide (z < 0)) (rt z e mode).1 (rq (bl z.natAbs) e), (rt z e mode).2) from fun h => HR3.out (by omega) (by omega))
  have hQ1 : (bl (rt z e mode).1 : Int) + rq (bl z.natAbs) e ≤ 128 → rq (bl z.natAbs) e ≤ 104 := fun h => rq_le (by omega)
  have HQ1 := Lib.hid hQ1
  clear HR1 HR2 HR3 hQ1 hle
  generalize (rt z e mode).1 = t at *
  generalize (rt z e mode).2 = F at *
  generalize rq (bl z.natAbs) e = Q at *
  generalize hex : decide (Q ≤ e) = ex at *
  have HEX := Lib.hid hex
  clear hex
  have hlen : (L t).length ≤ 2 := by rw [L_len_iff]; omega
  have hx2 := newAt w1 (.cells #[.int .i64 (sgn (t : Int)), .slice A1 (L t).length d1] 31)
  have hb2 := below_then HB1.out (Ma.below_alloc w1 (.cells #[.int .i64 (sgn (t : Int)), .slice A1 (L t).length d1] 31))
  have hC2 := C_at HRR.out.2.2 (Ma.below_alloc w1 (.cells #[.int .i64 (sgn (t : Int)), .slice A1 (L t).length d1] 31))
  have hbt3 := limbs_end (t := t) (Nat.le_refl _)
  have HLE := Lib.hid hbt3
  clear hbt3
  go_upto_region 4 with fail
  generalize w1.alloc (.cells #[.int .i64 (sgn (t : Int)), .slice A1 (L t).length d1] 31) = W2 at hx2 hb2 hC2 ⊢
  have stay := Lib.hid (stay2 HB0.out HX0.out hb2 hx2 hC2)
  have HLM2 := Lib.hid (HLM.out W2 A1 d1 hC2 HRR.out.2.1)
  clear hx2 hb2 hC2 HLM c0 c1 c2
  generalize w1.heap.size = g at *
  obtain ⟨⟨c0, c1, c2⟩, ⟨e0, e1⟩, -⟩ := stay.out W2 (Below.refl _ _)
  go_wp2_with fail
  refine HLM2.out.mono ?_
  rintro en w3 ⟨rfl, hb⟩
  have HB3 := Lib.hid hb
  clear hb c0 c1 c2 e0 e1
  obtain ⟨⟨c0, c1, c2⟩, ⟨e0, e1⟩, hC3, -, hbw3⟩ := stay.out w3 HB3.out
  have HBW3 := Lib.hid hbw3
  have HC3 := Lib.hid hC3
  clear hC3 hbw3
  by_cases hov : 128 < (bl t : Int) + Q
  · have HR := Lib.hid (HOV.out hov)
    have HO := Lib.hid (fun (W : World) => sOver (w := W) (mode := mode) (s := sgn z) (by omega) ⟨h3, h4⟩)
    clear HOV HNV
    go_wp2_with fail
    refine (HO.out _).mono ?_
    rintro en w4 ⟨rfl, rfl⟩
    go_wp2
    go_ret2
    exact ⟨by rw [HR.out]; rfl, HBW3.out⟩
  · have HR := Lib.hid (HNV.out (by omega))
    have hq1 := HQ1.out (by omega)
    have HCV := Lib.hid (fun (r : Nat) (h : IsN Ieee.double r false (V t Q)) (W : World) => convT h htl hQ0 (by omega) hq1 W)
    have HTW := Lib.hid (fun (b : Nat) (h : IsN Ieee.double b false (V t 0)) (W : World) => l01Twos b Q false t 0 h (by omega) (by decide) (by decide) (by omega) (by omega) W)
    have HTN := Lib.hid (fun (W : World) => l01Turned (Ieee.single.nearest false t Q) (near_lt false htl hQ0 (by omega) hq1).1 (near_lt false htl hQ0 (by omega) hq1).2 W)
    have HOP := Lib.hid (opp_near htl hQ0 (show (bl t : Int) + Q ≤ 128 by omega) hq1)
    clear HOV HNV
    have hcell : ∀ k, k < (L t).length → ∃ ad, A1 = some ad ∧ w3.cell? (ad.add k) = some (.int .i64 ((t / 16777216 ^ k % 16777216 : Nat) : Int)) := fun k hk => by
      obtain ⟨ad, hA, hc⟩ := Kd.at_int HC3.out (k : Int) (by omega) (by omega)
      rw [Int.toNat_natCast, rdN, L_getD] at hc
      exact ⟨ad, hA, hc⟩
    have HCL := Lib.hid hcell
    clear hcell
    generalize hm : (L t).length = m at *
    clear hm
    go_wp2_with fail
    go_loop [9, 10] (fun u i => ∃ k b : Nat, k ≤ m ∧ i = .int .i64 ((k : Int) - 1) ∧ u = .float .f64 b ∧ Hid (IsN Ieee.double b false (V (t / 16777216 ^ k) 0))) (fun _ i => (intOf i + 1).toNat)
    case atStart => exact ⟨m, 0, Nat.le_refl _, rfl, rfl, Lib.hid (by rw [HLE.out]; exact zero64)⟩
    case round =>
      obtain ⟨k, b, hk, rfl, rfl, HN⟩ := hrel
      cases k with
      | zero =>
        have e' : ((0 : Nat) : Int) - 1 = -1 := rfl
        rw [e']
        have hN := HN.out
        rw [Nat.pow_zero, Nat.div_one] at hN
        have HT := Lib.hid (HTW.out b hN)
        clear hN HN e'
        go_wp2_with fail
        refine (HT.out _).mono ?_
        rintro en w4 ⟨⟨r, rfl, hr⟩, rfl⟩
        rw [Int.zero_add] at hr
        have hcv := HCV.out r hr
        clear hr
        go_upto_if 56 with fail
        go_cut [12] (fun v12 wx => v12 = .int .i64 F ∧ Hid (Below W2.heap.size W2 wx))
        case first =>
          cases ex with
          | true =>
            go_wp2_with fail
            go_meet
            exact ⟨by rw [HFL.out, if_pos (of_decide_eq_true HEX.out)], HB3⟩
          | false =>
            have hA := of_decide_eq_false HEX.out
            have hF : F = if (bl z.natAbs : Int) + e ≤ -126 then 3 else 1 := by rw [HFL.out, if_neg hA]
            have HF := Lib.hid hF
            have HB03 := Lib.hid ((stay.out w3 HB3.out).2.2.2.1)
            clear hF hA
            by_cases ht : (bl z.natAbs : Int) + e ≤ -126
            · have hF := HF.out
              rw [if_pos ht] at hF
              have HF3 := Lib.hid hF
              clear hF
              go_upto_region 14 with fail
              go_region_held3 (fun w' => w'.cell? ⟨w.heap.size, 0, none⟩ = some (.int .i64 (sgn z)) ∧ w'.cell? ⟨w.heap.size, 1, none⟩ = some (.slice A n c) ∧ w'.cell? ⟨w.heap.size, 2, none⟩ = some (.int .i64 e)) (go_keep)
                (first | (go_at_call 57; refine (HLD.out _ (by first | exact HB03.out | exact HB03.out.drew)).mono ?_; rintro en w5 ⟨rfl, hb'⟩; have hb5 := below_then (show Below W2.heap.size W2 _ by first | exact HB3.out | exact HB3.out.drew) hb'; obtain ⟨⟨a0, a1, a2⟩, -⟩ := stay.out _ hb5; have HB5 := Lib.hid hb5; clear hb5 hb'))
              all_goals go_wp2_with fail
              all_goals go_meet
              all_goals first | (rw [HF3.out]; exact ⟨rfl, HB5⟩) | (exfalso; have hw : IntKind.i64.wrap ((bl z.natAbs : Int) + e) = (bl z.natAbs : Int) + e := Ss.i64_id (by omega) (by omega); simp only [hw] at *; omega)
            · have hF := HF.out
              rw [if_neg ht] at hF
              have HF3 := Lib.hid hF
              clear hF
              go_upto_region 14 with fail
              go_region_held3 (fun w' => w'.cell? ⟨w.heap.size, 0, none⟩ = some (.int .i64 (sgn z)) ∧ w'.cell? ⟨w.heap.size, 1, none⟩ = some (.slice A n c) ∧ w'.cell? ⟨w.heap.size, 2, none⟩ = some (.int .i64 e)) (go_keep)
                (first | (go_at_call 57; refine (HLD.out _ (by first | exact HB03.out | exact HB03.out.drew)).mono ?_; rintro en w5 ⟨rfl, hb'⟩; have hb5 := below_then (show Below W2.heap.size W2 _ by first | exact HB3.out | exact HB3.out.drew) hb'; obtain ⟨⟨a0, a1, a2⟩, -⟩ := stay.out _ hb5; have HB5 := Lib.hid hb5; clear hb5 hb'))
              all_goals go_wp2_with fail
              all_goals go_meet
              all_goals first | (rw [HF3.out]; exact ⟨rfl, HB5⟩) | (exfalso; have hw : IntKind.i64.wrap ((bl z.natAbs : Int) + e) = (bl z.natAbs : Int) + e := Ss.i64_id (by omega) (by omega); simp only [hw] at *; omega)
        case rest =>
          obtain ⟨rfl, HB4⟩ := hcut
          clear c0 c1 c2 e0 e1
          obtain ⟨⟨c0, c1, c2⟩, ⟨e0, e1⟩, -, -, hbw4⟩ := stay.out wc HB4.out
          have HBW4 := Lib.hid hbw4
          clear hbw4 e0 e1
          rcases hsg with ⟨hz, hs⟩ | ⟨hz, hs⟩
          · rw [hs] at c0
            have HR' := Lib.hid (show rnd z e mode = (Ieee.single.nearest true t Q, F) by rw [HR.out, decide_eq_true hz])
            clear hz hs
            go_wp2_with fail
            refine (HTN.out _).mono ?_
            rintro en w6 ⟨rfl, rfl⟩
            go_wp2
            go_ret2
            exact ⟨by rw [HR'.out, ← HOP.out]; rfl, HBW4.out⟩
          · rw [hs] at c0
            have HR' := Lib.hid (show rnd z e mode = (Ieee.single.nearest false t Q, F) by rw [HR.out, decide_eq_false (by omega)])
            clear hz hs
            go_wp2
            go_ret2
            exact ⟨by rw [HR'.out]; rfl, HBW4.out⟩
      | succ k =>
        have e' : ((k + 1 : Nat) : Int) - 1 = (k : Int) := by omega
        rw [e']
        clear e'
        obtain ⟨ad, hA, hc⟩ := HCL.out k (by omega)
        subst hA
        obtain ⟨r1, hr1, hn1⟩ := limb_mul HN.out (Nat.le_trans (Nat.div_le_self _ _) htl)
        have hi := ofInt64 ((t / 16777216 ^ k % 16777216 : Nat) : Int) (by omega) (by omega)
        rw [Int.natAbs_natCast, decide_eq_false (by omega)] at hi
        obtain ⟨r2, hr2, hn2⟩ := limb_add hn1 hi (by rw [limb_step]; have := Nat.div_le_self t (16777216 ^ k); omega)
        rw [limb_step] at hn2
        have HN2 := Lib.hid hn2
        have hrun1 := run_float_arith (P := Try.prog) w3 .mul 36 .f64 b 4715268809856909312 r1 hr1
        have hrun2 := run_float_arith (P := Try.prog) w3 .add 36 .f64 r1 _ r2 hr2
        clear hr1 hn1 hi hr2 hn2
        generalize t / 16777216 ^ k % 16777216 = d at *
        go_wp2
        go_round
        case rel => exact ⟨k, r2, by omega, rfl, rfl, HN2⟩
        case measure => (simp [intOf]) <;> omega
end Go.Proofs.Ytjddhnjjeomfjaa.Sr
end
section
set_option linter.unusedVariables false
set_option linter.unusedSimpArgs false
namespace Go.Proofs.Ytjddhnjjeomfjaa.Ng
open Go.RowKit Go.Proofs.YtjddhnjjeomfjaaW.PrintWords Go.Proofs.Ytjddhnjjeomfjaa.PW Go.Proofs.Ytjddhnjjeomfjaa.Pc Go.Proofs.Ytjddhnjjeomfjaa.Pb Go.Proofs.Ytjddhnjjeomfjaa.Pw Go.Proofs.Ytjddhnjjeomfjaa.Ma Go.Proofs.Ytjddhnjjeomfjaa.Mh Go.Proofs.Ytjddhnjjeomfjaa.Mu Go.Proofs.Ytjddhnjjeomfjaa.Na Go.Proofs.Ytjddhnjjeomfjaa.Nd Go.Proofs.Ytjddhnjjeomfjaa.Qa Dg
def Two (w W : World) (s e : Int) (A : Option Addr) (n c : Nat) : Prop :=
  (W.cell? ⟨w.heap.size, 0, none⟩ = some (.int .i64 s) ∧ W.cell? ⟨w.heap.size, 1, none⟩ = some (.slice A n c) ∧ W.cell? ⟨w.heap.size, 2, none⟩ = some (.int .i64 e)) ∧
  (W.cell? ⟨w.heap.size + 1, 0, none⟩ = some (.int .i64 0) ∧ W.cell? ⟨w.heap.size + 1, 1, none⟩ = some (.slice none 0 0) ∧ W.cell? ⟨w.heap.size + 1, 2, none⟩ = some (.int .i64 0) ∧ W.frozen? ⟨w.heap.size + 1, 0, none⟩ = false ∧ W.frozen? ⟨w.heap.size + 1, 1, none⟩ = false ∧ W.frozen? ⟨w.heap.size + 1, 2, none⟩ = false) ∧
  (w.heap.size < W.heap.size ∧ w.heap.size + 1 < W.heap.size) ∧ W.heap[w.heap.size + 1]? = some (.cells #[.int .i64 0, .slice none 0 0, .int .i64 0] 33 (0, 0)) ∧ Below w.heap.size w W
theorem two (w : World) (s e : Int) (A : Option Addr) (n c : Nat) {W0 : World} (hW0 : W0 = (w.alloc (.cells #[.int .i64 s, .slice A n c, .int .i64 e] 33)).alloc (.cells #[.int .i64 0, .slice none 0 0, .int .i64 0] 33)) :
    Below w.heap.size w W0 ∧ ∀ W, Below W0.heap.size W0 W → Two w W s e A n c := by
  obtain ⟨hb0, hx0, hx1, hs0⟩ := boxes2 w (.cells #[.int .i64 s, .slice A n c, .int .i64 e] 33) (.cells #[.int .i64 0, .slice none 0 0, .int .i64 0] 33) W0 (by rw [hW0]; exact Below.refl _ _)
  refine ⟨hb0, fun W hb => ?_⟩
  have hy0 := (hb.block _ (by omega)).trans hx0
  have hy1 := (hb.block _ (by omega)).trans hx1
  obtain ⟨a0, a1, a2, a3, a4, a5, a6⟩ := cellsD hy0
  obtain ⟨b0, b1, b2, b3, b4, b5, b6⟩ := cellsD hy1
  exact ⟨⟨a0, a1, a2⟩, ⟨b0, b1, b2, b3, b4, b5⟩, ⟨a6, b6⟩, hy1, hb0.trans (hb.mono (Nat.le_trans (by omega) hs0))⟩
end Go.Proofs.Ytjddhnjjeomfjaa.Ng
end
section
set_option linter.unusedVariables false
set_option linter.unusedSimpArgs false
namespace Go.Proofs.Ytjddhnjjeomfjaa.Vr
open Go.RowKit Go.Proofs.YtjddhnjjeomfjaaW.PrintWords Go.Proofs.YtjddhnjjeomfjaaW.PrintMore Go.Proofs.Ytjddhnjjeomfjaa.PW Go.Proofs.Ytjddhnjjeomfjaa.Pb Go.Proofs.Ytjddhnjjeomfjaa.Pc Go.Proofs.Ytjddhnjjeomfjaa.Pm Go.Proofs.Ytjddhnjjeomfjaa.Pw Go.Proofs.Ytjddhnjjeomfjaa.Ma Go.Proofs.Ytjddhnjjeomfjaa.Mh Go.Proofs.Ytjddhnjjeomfjaa.Mu Go.Proofs.Ytjddhnjjeomfjaa.Na Go.Proofs.Ytjddhnjjeomfjaa.Nd Go.Proofs.Ytjddhnjjeomfjaa.Ng Go.Proofs.Ytjddhnjjeomfjaa.Nr Go.Proofs.Ytjddhnjjeomfjaa.Qa Go.Proofs.Ytjddhnjjeomfjaa.Re Go.Proofs.Ytjddhnjjeomfjaa.Rf Go.Proofs.Ytjddhnjjeomfjaa.Sr Dg Fp
theorem rnd_zero (e mode : Int) : rnd 0 e mode = (0, 0) := by unfold rnd; rw [if_pos rfl]
theorem nroundA {w : World} {q : Nat} {z e mode : Int} (hz : Z w q z) (h1 : bl z.natAbs ≤ 1000000) (h2 : -1000000 ≤ e) (h3 : e ≤ 1000000) (h4 : 0 ≤ mode) (h5 : mode ≤ 4) :
    Calls Try.prog 35 #[.agg #[.pointer (some ⟨q, 0, none⟩), .int .i64 e], .int .i64 mode] w fun en w' => en = .returned (.tuple #[.float .f32 (rnd z e mode).1, .int .i64 (rnd z e mode).2]) ∧ Below w.heap.size w w' := by
  by_cases h0 : z = 0
  · subst h0
    rw [rnd_zero]
    exact nround0 hz
  · exact nround hz h0 h1 h2 h3 h4 h5
theorem cMode {w : World} (mode : Int) : Calls Try.prog 33 #[.int .i64 mode] w fun en w' => en = .returned (.bool (decide (0 ≤ mode ∧ mode ≤ 4))) ∧ Below w.heap.size w w' := by
  refine (impl_isMode.calls mode (decide (0 ≤ mode ∧ mode ≤ 4)) w ?_).mono fun en w' h => ⟨h.1, h.2.below⟩
  unfold impl_isMode.f
  by_cases h : mode ≥ 0
  · rw [if_pos h]
    congr 1
    rw [Bool.eq_iff_iff, decide_eq_true_iff, decide_eq_true_iff]
    omega
  · rw [if_neg h, decide_eq_false (by omega)]
theorem smode (mode : Int) : spec_l03Mode.f mode = some (decide (0 ≤ mode ∧ mode ≤ 4)) := by
  unfold spec_l03Mode.f
  by_cases h : 0 ≤ mode ∧ mode ≤ 4
  · rw [in_true h.1 h.2, decide_eq_true h]; rfl
  · rw [in_false (by omega), decide_eq_false h]; rfl
end Go.Proofs.Ytjddhnjjeomfjaa.Vr
end
section
set_option linter.unusedVariables false
set_option linter.unusedSimpArgs false
namespace Go.Proofs.Ytjddhnjjeomfjaa.Ae
open Go.RowKit Go.Proofs.YtjddhnjjeomfjaaW.PrintWords Go.Proofs.YtjddhnjjeomfjaaW.PrintMore Go.Proofs.Ytjddhnjjeomfjaa.PW Go.Proofs.Ytjddhnjjeomfjaa.Pb Go.Proofs.Ytjddhnjjeomfjaa.Pc Go.Proofs.Ytjddhnjjeomfjaa.Pm Go.Proofs.Ytjddhnjjeomfjaa.Pw Go.Proofs.Ytjddhnjjeomfjaa.Ma Go.Proofs.Ytjddhnjjeomfjaa.Mh Go.Proofs.Ytjddhnjjeomfjaa.Mu Go.Proofs.Ytjddhnjjeomfjaa.Na Go.Proofs.Ytjddhnjjeomfjaa.Nc Go.Proofs.Ytjddhnjjeomfjaa.Nr Go.Proofs.Ytjddhnjjeomfjaa.Va Go.Proofs.Ytjddhnjjeomfjaa.Vr Go.Proofs.Ytjddhnjjeomfjaa.Re Go.Proofs.Ytjddhnjjeomfjaa.Rf Go.Proofs.Ytjddhnjjeomfjaa.Ad Dg Fp
theorem areFinite {w : World} {g t x y : Nat} (hx : x < 4294967296) (hy : y < 4294967296) (hg : w.heap[g]? = some (.cells #[.float .f32 x, .float .f32 y] t (0, 0))) :
    Calls Try.prog 40 #[.slice (some ⟨g, 0, none⟩) 2 2] w fun en w' => en = .returned (.bool (fin Ieee.single x && fin Ieee.single y)) ∧ w = w' := by
  have HF1 := Lib.hid (Wc.isFinite x hx w)
  have HF2 := Lib.hid (Wc.isFinite y hy w)
  have c0 : w.cell? ⟨g, 0, none⟩ = some (.float .f32 x) := blk_cell hg 0
  have c1 : w.cell? ⟨g, 1, none⟩ = some (.float .f32 y) := blk_cell hg 1
  clear hg
  generalize fin Ieee.single x = a at *
  generalize fin Ieee.single y = b at *
  go_enter Try.func40, Try.ntmps40
  go_wp2_with fail
  go_loop [7] (fun i => ∃ k : Nat, k ≤ 2 ∧ i = .int .i64 (k : Int) ∧ (1 ≤ k → a = true) ∧ (2 ≤ k → b = true)) (fun i => (2 - intOf i).toNat)
  case atStart => exact ⟨0, by omega, rfl, by omega, by omega⟩
  case round =>
    obtain ⟨k, hk, rfl, h1, h2⟩ := hrel
    have hk3 : k = 0 ∨ k = 1 ∨ k = 2 := by omega
    rcases hk3 with rfl | rfl | rfl
    · clear h1 h2
      cases a with
      | true =>
        go_wp2_with (first | (go_at_call 84; refine HF1.out.mono ?_; rintro en w1 ⟨rfl, rfl⟩))
        go_round
        case rel => exact ⟨1, by omega, rfl, fun _ => trivial, by omega⟩
        case measure => (simp [intOf]) <;> omega
      | false =>
        go_wp2_with (first | (go_at_call 84; refine HF1.out.mono ?_; rintro en w1 ⟨rfl, rfl⟩))
        go_ret
        exact ⟨rfl, rfl⟩
    · have ha := h1 (Nat.le_refl _)
      subst ha
      clear h1 h2
      cases b with
      | true =>
        go_wp2_with (first | (go_at_call 84; refine HF2.out.mono ?_; rintro en w1 ⟨rfl, rfl⟩))
        go_round
        case rel => exact ⟨2, by omega, rfl, fun _ => trivial, fun _ => trivial⟩
        case measure => (simp [intOf]) <;> omega
      | false =>
        go_wp2_with (first | (go_at_call 84; refine HF2.out.mono ?_; rintro en w1 ⟨rfl, rfl⟩))
        go_ret
        exact ⟨rfl, rfl⟩
    · have ha := h1 (by omega)
      have hb := h2 (by omega)
      subst ha hb
      clear h1 h2
      go_wp2
      go_ret
      exact ⟨rfl, rfl⟩
def z0 (b : Bool) : Nat := if b = true then 2147483648 else 0
theorem minusZero {w : World} : Calls Try.prog 94 #[] w fun en w' => en = .returned (.float .f32 2147483648) ∧ w = w' := by
  go_enter Try.func94, Try.ntmps94
  go_wp2
  go_ret
  exact ⟨rfl, rfl⟩
theorem zeroSum {w : World} (a n : Bool) (mode : Int) : Calls Try.prog 87 #[.bool a, .bool n, .int .i64 mode] w fun en w' => en = .returned (.float .f32 (z0 (a && n || !a && decide (mode = 1)))) ∧ w = w' := by
  have HZ := Lib.hid (minusZero (w := w))
  by_cases hm : mode = 1
  · subst hm
    cases a <;> cases n
    all_goals
      go_enter Try.func87, Try.ntmps87
      go_wp2_with (first | (go_at_call 94; refine HZ.out.mono ?_; rintro en w1 ⟨rfl, rfl⟩))
      go_ret
      exact ⟨rfl, rfl⟩
  · rw [decide_eq_false hm]
    have hmb : (mode == 1) = false := by simpa using hm
    cases a <;> cases n
    all_goals
      go_enter Try.func87, Try.ntmps87
      go_wp2_with (first | (go_at_call 94; refine HZ.out.mono ?_; rintro en w1 ⟨rfl, rfl⟩))
      go_ret
      exact ⟨rfl, rfl⟩
def aiF (x y : Nat) (mode : Int) : Nat × Int :=
  if addz (zf x) (Wc.expo x) (zf y) (Wc.expo y) = 0 then (z0 (if (decide (zf x = 0) && (sg Ieee.single x == sg Ieee.single y)) = true then sg Ieee.single x else decide (mode = 1)), 0)
  else rnd (addz (zf x) (Wc.expo x) (zf y) (Wc.expo y)) (adde (zf x) (Wc.expo x) (zf y) (Wc.expo y)) mode
theorem zf_zero {x : Nat} (hx : x < 4294967296) : zf x = 0 ↔ pl Ieee.single x = 0 := by
  rw [Wc.pl32]
  unfold zf sv Wc.mant
  constructor
  · intro h
    split at h <;> (try split at h) <;> (try split) <;> omega
  · intro h
    split at h <;> (try split) <;> (try split) <;> omega
theorem nan_of_fin {x : Nat} (hf : fin Ieee.single x = true) : nan Ieee.single x = false := by unfold fin nan at *; simp at *; omega
theorem sum_bd {x y : Nat} (fx : fin Ieee.single x = true) (fy : fin Ieee.single y = true) : bl (addz (zf x) (Wc.expo x) (zf y) (Wc.expo y)).natAbs ≤ 300 ∧ -149 ≤ adde (zf x) (Wc.expo x) (zf y) (Wc.expo y) ∧ adde (zf x) (Wc.expo x) (zf y) (Wc.expo y) ≤ 105 := by
  have h1 := expo_bd fx
  have h2 := expo_bd fy
  refine ⟨?_, adde_lo _ (by omega) (by omega), adde_hi _ (by omega) (by omega)⟩
  have := addz_bl (d := 254) (zf_bl x) (zf_bl y) (show Wc.expo x - Wc.expo y ≤ (254 : Nat) by omega) (show Wc.expo y - Wc.expo x ≤ (254 : Nat) by omega)
  omega
set_option maxRecDepth 20000 in
set_option maxHeartbeats 1600000 in
theorem iaddIn {w : World} {x y : Nat} {mode : Int} (hx : x < 4294967296) (hy : y < 4294967296) (fx : fin Ieee.single x = true) (fy : fin Ieee.single y = true) (h4 : 0 ≤ mode) (h5 : mode ≤ 4) :
    Calls Try.prog 41 #[.float .f32 x, .float .f32 y, .int .i64 mode] w fun en w' => en = .returned (.tuple #[.float .f32 (aiF x y mode).1, .int .i64 (aiF x y mode).2]) ∧ Below w.heap.size w w' := by
  have HNX := Lib.hid (fun (W : World) => nnumOf (w := W) x hx)
  have HNY := Lib.hid (fun (W : World) => nnumOf (w := W) y hy)
  have hbx := zf_bl x
  have hby := zf_bl y
  have h1 := expo_bd fx
  have h2 := expo_bd fy
  have hsb := sum_bd fx fy
  have HAD := Lib.hid (fun (W : World) (p q : Nat) (hp : Z W p (zf x)) (hq : Z W q (zf y)) => nadd (e := Wc.expo x) (f := Wc.expo y) hp hq (by omega) (by omega) (by omega) (by omega) (by omega) (by omega))
  have HRD := Lib.hid (fun (W : World) (p : Nat) (hp : Z W p (addz (zf x) (Wc.expo x) (zf y) (Wc.expo y))) => nroundA (e := adde (zf x) (Wc.expo x) (zf y) (Wc.expo y)) (mode := mode) hp (by omega) (by omega) (by omega) h4 h5)
  have HMX := Lib.hid (fun (W : World) => Wc.minus x hx W)
  have HMY := Lib.hid (fun (W : World) => Wc.minus y hy W)
  have HZS := Lib.hid (fun (W : World) (a n : Bool) => zeroSum (w := W) a n mode)
  have hnx := nan_of_fin fx
  have hny := nan_of_fin fy
  have hex := Wd.eq32 hx (by decide : 0 < 4294967296) hnx Wd.nan0
  have hey := Wd.eq32 hy (by decide : 0 < 4294967296) hny Wd.nan0
  rw [Wd.pl0] at hex hey
  have hzx := zf_zero hx
  have hzy := zf_zero hy
  have haz : addz (zf x) (Wc.expo x) (zf y) (Wc.expo y) = 0 → zf x = 0 → zf y = 0 := fun h h0 => by unfold addz at h; rwa [if_pos h0] at h
  have HA0 := Lib.hid (show addz (zf x) (Wc.expo x) (zf y) (Wc.expo y) = 0 → aiF x y mode = (z0 (if (decide (zf x = 0) && (sg Ieee.single x == sg Ieee.single y)) = true then sg Ieee.single x else decide (mode = 1)), 0) from fun h => by unfold aiF; rw [if_pos h])
  have HA1 := Lib.hid (show addz (zf x) (Wc.expo x) (zf y) (Wc.expo y) ≠ 0 → aiF x y mode = rnd (addz (zf x) (Wc.expo x) (zf y) (Wc.expo y)) (adde (zf x) (Wc.expo x) (zf y) (Wc.expo y)) mode from fun h => by unfold aiF; rw [if_neg h])
  clear hnx hny hbx hby h1 h2 hsb
  generalize addz (zf x) (Wc.expo x) (zf y) (Wc.expo y) = S at *
  generalize adde (zf x) (Wc.expo x) (zf y) (Wc.expo y) = E at *
  generalize Wc.expo x = ex at *
  generalize Wc.expo y = ey at *
  generalize zf x = zx at *
  generalize zf y = zy at *
  generalize sg Ieee.single x = sx at *
  generalize sg Ieee.single y = sy at *
  have HXY := Lib.hid (And.intro (And.intro hex hey) (And.intro (And.intro hzx hzy) haz))
  clear hex hey hzx hzy haz fx fy
  go_enter Try.func41, Try.ntmps41
  go_wp2_with fail
  refine (HNX.out _).mono ?_
  rintro en w1 ⟨p, rfl, hz, hb⟩
  have HZ1 := Lib.hid hz
  have HB1 := Lib.hid hb
  clear hz hb
  go_wp2_with fail
  refine (HNY.out _).mono ?_
  rintro en w2 ⟨q, rfl, hz, hb⟩
  have HZ2 := Lib.hid hz
  have HZ1' := Lib.hid (HZ1.out.below hb)
  have HB2 := Lib.hid (below_then HB1.out hb)
  clear hz hb HZ1
  go_wp2_with fail
  refine (HAD.out _ _ _ HZ1'.out HZ2.out).mono ?_
  rintro en w3 ⟨g, rfl, hz, hb⟩
  have HZ3 := Lib.hid hz
  have HB3 := Lib.hid (below_then HB2.out hb)
  clear hz hb HZ1' HZ2
  go_upto_region 2 with fail
  have hx4 := newAt w3 (.cells #[.pointer (some ⟨g, 0, none⟩), .int .i64 E] 58)
  have HZ4 := Lib.hid (HZ3.out.below (Ma.below_alloc w3 (.cells #[.pointer (some ⟨g, 0, none⟩), .int .i64 E] 58)))
  have HB4 := Lib.hid (below_then HB3.out (Ma.below_alloc w3 (.cells #[.pointer (some ⟨g, 0, none⟩), .int .i64 E] 58)))
  clear HZ3 HB3
  generalize w3.alloc (.cells #[.pointer (some ⟨g, 0, none⟩), .int .i64 E] 58) = w4 at *
  generalize w3.heap.size = b at *
  obtain ⟨c0, c1, _, _, _⟩ := cellsN hx4
  have HX4 := Lib.hid hx4
  have hs4 := nsign (e := E) HZ4.out
  by_cases hS : S = 0
  · have HR := Lib.hid (HA0.out hS)
    rw [hS] at hs4
    have HS4 := Lib.hid hs4
    clear hs4 hx4 HA0 HA1 HAD HRD
    obtain ⟨⟨hex, hey⟩, ⟨hzx, hzy⟩, haz⟩ := HXY.out
    by_cases hx0 : zx = 0
    · have hy0 := haz hS hx0
      rw [hzx.1 hx0] at hex
      rw [hzy.1 hy0] at hey
      rw [decide_eq_true rfl] at hex hey
      rw [decide_eq_true hx0, Bool.true_and] at HR
      clear hzx hzy haz hS hx0 hy0 HXY
      go_wp2_with fail
      refine HS4.out.mono ?_
      rintro en w5 ⟨rfl, hb⟩
      have HB5 := Lib.hid (below_then HB4.out hb)
      clear hb
      cases sx <;> cases sy
      all_goals
        go_wp2_with (first | (go_at_call 88; first | (refine (HMX.out _).mono ?_; rintro en w6 ⟨rfl, rfl⟩) | (refine (HMY.out _).mono ?_; rintro en w6 ⟨rfl, rfl⟩)) | (go_at_call 87; refine (HZS.out _ _ _).mono ?_; rintro en w6 ⟨rfl, rfl⟩))
        go_ret2
        exact ⟨by rw [HR.out]; rfl, HB5.out⟩
    · have hp : pl Ieee.single x ≠ 0 := fun h => hx0 (hzx.2 h)
      rw [decide_eq_false hp] at hex
      rw [decide_eq_false hx0, Bool.false_and] at HR
      clear hzx hzy haz hS hx0 hp HXY hey
      go_wp2_with fail
      refine HS4.out.mono ?_
      rintro en w5 ⟨rfl, hb⟩
      have HB5 := Lib.hid (below_then HB4.out hb)
      clear hb
      go_wp2_with (first | (go_at_call 88; refine (HMX.out _).mono ?_; rintro en w6 ⟨rfl, rfl⟩) | (go_at_call 87; refine (HZS.out _ _ _).mono ?_; rintro en w6 ⟨rfl, rfl⟩))
      go_ret2
      exact ⟨by rw [HR.out]; rfl, HB5.out⟩
  · have HR := Lib.hid (HA1.out hS)
    have hsg : sgn S = 1 ∨ sgn S = -1 := by have := sgn_cases S; omega
    have HS4 := Lib.hid hs4
    clear hs4 hx4 HA0 HA1 HAD hS
    generalize sgn S = sS at *
    go_wp2_with fail
    refine HS4.out.mono ?_
    rintro en w5 ⟨rfl, hb⟩
    have HB5 := Lib.hid (below_then HB4.out hb)
    have HZ5 := Lib.hid (HZ4.out.below hb)
    have hx5 := (hb.block _ (blk_lt HX4.out)).trans HX4.out
    clear hb c0 c1
    obtain ⟨c0, c1, _, _, _⟩ := cellsN hx5
    clear hx5
    rcases hsg with rfl | rfl
    all_goals
      go_wp2_with fail
      refine (HRD.out _ _ HZ5.out).mono ?_
      rintro en w6 ⟨rfl, hb⟩
      have HB6 := Lib.hid (below_then HB5.out hb)
      clear hb
      go_wp2
      go_ret2
      exact ⟨by rw [HR.out]; rfl, HB6.out⟩
def adI (x y : Nat) (mode : Int) : Nat × Int × Int := if (fin Ieee.single x && fin Ieee.single y) = true then (if 0 ≤ mode ∧ mode ≤ 4 then ((aiF x y mode).1, (aiF x y mode).2, 0) else (0, 0, 2)) else (0, 0, 1)
theorem adI_cases (x y : Nat) (mode : Int) : (fin Ieee.single x = true ∧ fin Ieee.single y = true ∧ (0 ≤ mode ∧ mode ≤ 4) ∧ adI x y mode = ((aiF x y mode).1, (aiF x y mode).2, 0)) ∨ ((fin Ieee.single x && fin Ieee.single y) = true ∧ ¬ (0 ≤ mode ∧ mode ≤ 4) ∧ adI x y mode = (0, 0, 2)) ∨ ((fin Ieee.single x && fin Ieee.single y) = false ∧ adI x y mode = (0, 0, 1)) := by
  unfold adI
  cases hf : (fin Ieee.single x && fin Ieee.single y) with
  | true =>
    simp only [if_true]
    by_cases hm : 0 ≤ mode ∧ mode ≤ 4
    · rw [if_pos hm]
      rw [Bool.and_eq_true] at hf
      exact .inl ⟨hf.1, hf.2, hm, rfl⟩
    · rw [if_neg hm]; exact .inr (.inl ⟨trivial, hm, rfl⟩)
  | false => exact .inr (.inr ⟨rfl, by simp only [Bool.false_eq_true, if_false]⟩)
set_option maxHeartbeats 800000 in
theorem iAddIn {w : World} {x y : Nat} {mode : Int} (hx : x < 4294967296) (hy : y < 4294967296) :
    Calls Try.prog 19 #[.float .f32 x, .float .f32 y, .int .i64 mode] w fun en w' => en = .returned (.tuple #[.float .f32 (adI x y mode).1, .int .i64 (adI x y mode).2.1, .int .i64 (adI x y mode).2.2]) ∧ Below w.heap.size w w' := by
  have HF0 := areFinite hx hy (newAt w (.cells #[.float .f32 x, .float .f32 y] 28))
  have HB0 := Lib.hid (Ma.below_alloc w (.cells #[.float .f32 x, .float .f32 y] 28))
  have HM0 := fun (W : World) => cMode (w := W) mode
  rcases adI_cases x y mode with ⟨fx, fy, hm, hr⟩ | ⟨hf, hm, hr⟩ | ⟨hf, hr⟩
  · have HA := Lib.hid (fun (W : World) => iaddIn (w := W) hx hy fx fy hm.1 hm.2)
    rw [fx, fy, Bool.and_true] at HF0
    rw [decide_eq_true hm] at HM0
    have HF := Lib.hid HF0
    have HM := Lib.hid HM0
    have HR := Lib.hid hr
    clear hr hm fx fy HF0 HM0
    go_enter Try.func19, Try.ntmps19
    go_wp2_with fail
    refine HF.out.mono ?_
    rintro en w1 ⟨rfl, rfl⟩
    go_wp2_with fail
    refine (HM.out _).mono ?_
    rintro en w2 ⟨rfl, hb⟩
    have HB2 := Lib.hid (below_then HB0.out hb)
    clear hb
    go_wp2_with fail
    refine (HA.out _).mono ?_
    rintro en w3 ⟨rfl, hb⟩
    have HB3 := Lib.hid (below_then HB2.out hb)
    clear hb
    go_wp2
    go_ret3
    exact ⟨by rw [HR.out]; rfl, HB3.out⟩
  · rw [hf] at HF0
    rw [decide_eq_false hm] at HM0
    have HF := Lib.hid HF0
    have HM := Lib.hid HM0
    have HR := Lib.hid hr
    clear hr hm hf HF0 HM0
    go_enter Try.func19, Try.ntmps19
    go_wp2_with fail
    refine HF.out.mono ?_
    rintro en w1 ⟨rfl, rfl⟩
    go_wp2_with fail
    refine (HM.out _).mono ?_
    rintro en w2 ⟨rfl, hb⟩
    have HB2 := Lib.hid (below_then HB0.out hb)
    clear hb
    go_wp2
    go_ret3
    exact ⟨by rw [HR.out]; rfl, HB2.out⟩
  · rw [hf] at HF0
    have HF := Lib.hid HF0
    have HR := Lib.hid hr
    clear hr hf HF0 HM0
    go_enter Try.func19, Try.ntmps19
    go_wp2_with fail
    refine HF.out.mono ?_
    rintro en w1 ⟨rfl, rfl⟩
    go_wp2
    go_ret3
    exact ⟨by rw [HR.out]; rfl, HB0.out⟩
end Go.Proofs.Ytjddhnjjeomfjaa.Ae
end
section
set_option linter.unusedVariables false
set_option linter.unusedSimpArgs false
namespace Go.Proofs.Ytjddhnjjeomfjaa.Vb
open Go.RowKit Go.Proofs.YtjddhnjjeomfjaaW.PrintWords Go.Proofs.Ytjddhnjjeomfjaa.PW Go.Proofs.Ytjddhnjjeomfjaa.Pc Go.Proofs.Ytjddhnjjeomfjaa.Pb Go.Proofs.Ytjddhnjjeomfjaa.Pw Go.Proofs.Ytjddhnjjeomfjaa.Pm Go.Proofs.Ytjddhnjjeomfjaa.Pv Go.Proofs.Ytjddhnjjeomfjaa.Ma Go.Proofs.Ytjddhnjjeomfjaa.Mc Go.Proofs.Ytjddhnjjeomfjaa.Mh Go.Proofs.Ytjddhnjjeomfjaa.Mu Go.Proofs.Ytjddhnjjeomfjaa.Na Go.Proofs.Ytjddhnjjeomfjaa.Nd Go.Proofs.Ytjddhnjjeomfjaa.Nf Go.Proofs.Ytjddhnjjeomfjaa.Qa Go.Proofs.Ytjddhnjjeomfjaa.Va Dg Fp
theorem zf_neg {x : Nat} (hx : x < 4294967296) (hf : fin Ieee.single x = true) : zf x = if pl Ieee.single x < 0 then -(Wc.mant x : Int) else (Wc.mant x : Int) := by
  have hm0 : pl Ieee.single x = 0 → Wc.mant x = 0 := fun h => by
    have h1 := Wc.pl32 x
    rw [h] at h1
    have h2 : x % 2147483648 = 0 := by
      unfold sv at h1
      split at h1 <;> omega
    unfold Wc.mant
    rw [if_pos (by omega)]
    omega
  unfold zf
  by_cases h0 : pl Ieee.single x = 0
  · rw [if_neg (by omega), hm0 h0]; unfold sv; split <;> rfl
  · rw [Wd.sg_of_pl h0]; unfold sv; by_cases hlt : pl Ieee.single x < 0 <;> simp [hlt]
theorem sl03Of {w : World} (x : Nat) (hx : x < 4294967296) (hf : fin Ieee.single x = true) :
    Calls Try.prog 82 #[.float .f32 x] w fun en w' => ∃ u, en = .returned (.agg #[.int .i64 (dy (zf x) (Wc.expo x)).1, u, .int .i64 (dy (zf x) (Wc.expo x)).2.2]) ∧ Kd.R (Kd.int .i64) 2 w' w.heap.size (fun _ => True) u (dy (zf x) (Wc.expo x)).2.1 ∧ Below w.heap.size w w' := by
  obtain ⟨W0, hW0⟩ : ∃ W0, W0 = w.alloc (.cells #[.int .i64 0, .slice none 0 0, .int .i64 0] 33) := ⟨_, rfl⟩
  obtain ⟨hb0, hx0, hs0⟩ := boxes1 w (.cells #[.int .i64 0, .slice none 0 0, .int .i64 0] 33) W0 (by rw [hW0]; exact Below.refl _ _)
  have HP := Lib.hid (fun (W : World) => We.l01Parts x hx hf W)
  have HB0 := Lib.hid hb0
  have HX0 := Lib.hid hx0
  have HW := Lib.hid hW0
  obtain ⟨d0, d1, d2, f0, f1, f2, l1⟩ := cellsD hx0
  clear hb0 hx0 hW0
  have he := expo_bd hf
  have hz1 := zf_bl x
  have hm := mant_lt x
  have hza := zf_natAbs x
  have hn : nan Ieee.single x = false := by unfold fin nan at *; simp at *; omega
  have hl := Wd.lt32 hx (by decide : 0 < 4294967296) hn Wd.nan0
  rw [Wd.pl0] at hl
  have hneg := zf_neg hx hf
  obtain ⟨K0, hK0⟩ := (sof (zf x) (by omega) (by omega)).rounds
  obtain ⟨K1, hK1⟩ := (smakeD (zf x) (Wc.expo x) (by omega) (by omega) (by omega)).rounds
  generalize dy (zf x) (Wc.expo x) = r at *
  obtain ⟨r1, r2, r3⟩ := r
  have HO := Lib.hid (fun (W : World) => spec_l02Of.calls K0 (zf x) _ _ W hK0)
  have HM := Lib.hid (fun (W : World) (A : Option Addr) (c : Nat) (h1 : Kd.C (Kd.int .i64) W A (L (zf x).natAbs).length (L (zf x).natAbs)) (h2 : (L (zf x).natAbs).length ≤ c) => spec_l03Make.calls K1 (sgn (zf x)) A c (L (zf x).natAbs) (Wc.expo x) _ _ _ W h1 h2 hK1)
  clear he hz1 hf hn hza hK0 hK1
  generalize sgn (zf x) = s at *
  generalize L (zf x).natAbs = l at *
  generalize Wc.expo x = e at *
  generalize zf x = z at *
  generalize Wc.mant x = m at *
  have hm0 : (0 : Int) ≤ m := by omega
  have hz : z = (m : Int) ∨ z = -(m : Int) := by split at hneg <;> omega
  by_cases hlt : pl Ieee.single x < 0
  all_goals
    first
      | (rw [if_pos hlt] at hneg; rw [show decide (pl Ieee.single x < 0) = true by simpa using hlt] at hl)
      | (rw [if_neg hlt] at hneg; rw [show decide (pl Ieee.single x < 0) = false by simpa using hlt] at hl)
    have HG := Lib.hid hneg
    clear hlt hneg
    go_enter Try.func82, Try.ntmps82
    go_upto_region 1 with fail
    rw [← HW.out]
    clear HW
    go_wp2_with fail
    refine (HP.out _).mono ?_
    rintro en w1 ⟨rfl, rfl⟩
    go_wp2_with fail
    try rw [← HG.out]
    refine (HO.out _).mono ?_
    rintro en w2 ⟨u, rfl, hR, hb⟩
    obtain ⟨A, c, rfl⟩ := Kd.R_slice hR
    have HR := Lib.hid (Kd.R_reads' hR)
    have HB2 := Lib.hid hb
    clear hR hb d0 d1 d2 f0 f1 f2
    go_wp2_with fail
    refine (HM.out _ _ _ HR.out.2.2 HR.out.2.1).mono ?_
    rintro en w3 ⟨u, rfl, hR, hb⟩
    obtain ⟨A3, c3, rfl⟩ := Kd.R_slice hR
    have hb3 := below_then HB2.out hb
    have hx1 := (hb3.block _ l1).trans HX0.out
    obtain ⟨b0, b1, b2, g0, g1, g2, k1⟩ := cellsD hx1
    have HX2 := Lib.hid hx1
    have HB3 := Lib.hid (below_then HB0.out hb3)
    have HR3 := Lib.hid (Kd.R_lower (base' := w.heap.size) hR (by have h5 := HB2.out.size; have h6 := HB0.out.size; omega))
    clear hR hb hb3 hx1
    go_wp2
    have hst := storedD (s := r1) (x := r3) (u := .slice A3 r2.length c3) HX2.out HB3.out (by omega) HR3.out
    exact bodyPost_ret (results_single rfl (.cell w.heap.size 33 #[.int .i64 r1, .slice A3 r2.length c3, .int .i64 r3] (0, 0) _ rfl hst.1 Try.underlying33 rfl sizeD .nil)) rfl ⟨_, rfl, hst.2.1, hst.2.2⟩
end Go.Proofs.Ytjddhnjjeomfjaa.Vb
end
section
set_option linter.unusedVariables false
set_option linter.unusedSimpArgs false
namespace Go.Proofs.Ytjddhnjjeomfjaa.Af
open Go.RowKit Go.Proofs.Ytjddhnjjeomfjaa.Ma Go.Proofs.YtjddhnjjeomfjaaW.PrintWords Go.Proofs.YtjddhnjjeomfjaaW.PrintLast Go.Proofs.YtjddhnjjeomfjaaW.PrintMore Go.Proofs.Ytjddhnjjeomfjaa.PW Go.Proofs.Ytjddhnjjeomfjaa.Pb Go.Proofs.Ytjddhnjjeomfjaa.Pc Go.Proofs.Ytjddhnjjeomfjaa.Pm Go.Proofs.Ytjddhnjjeomfjaa.Pw Go.Proofs.Ytjddhnjjeomfjaa.Mh Go.Proofs.Ytjddhnjjeomfjaa.Mu Go.Proofs.Ytjddhnjjeomfjaa.Na Go.Proofs.Ytjddhnjjeomfjaa.Nc Go.Proofs.Ytjddhnjjeomfjaa.Nd Go.Proofs.Ytjddhnjjeomfjaa.Ln Go.Proofs.Ytjddhnjjeomfjaa.Nr Go.Proofs.Ytjddhnjjeomfjaa.Qa Go.Proofs.Ytjddhnjjeomfjaa.Sr Go.Proofs.Ytjddhnjjeomfjaa.Va Go.Proofs.Ytjddhnjjeomfjaa.Vb Go.Proofs.Ytjddhnjjeomfjaa.Vr Go.Proofs.Ytjddhnjjeomfjaa.Re Go.Proofs.Ytjddhnjjeomfjaa.Rf Go.Proofs.Ytjddhnjjeomfjaa.Ad Go.Proofs.Ytjddhnjjeomfjaa.Ae Go.Proofs.Ytjddhnjjeomfjaa.Wd Go.Proofs.Ytjddhnjjeomfjaa.We Dg Fp
open Go.Proofs.Ytjddhnjjeomfjaa.Wc (ret_bool)
theorem sBit (x : Nat) (hx : x < 4294967296) (hn : nan Ieee.single x = false) (w : World) : Calls Try.prog 83 #[.float .f32 x] w fun e w' => e = .returned (.bool (sg Ieee.single x)) ∧ w = w' := by
  have hl := lt32 hx (by decide : 0 < 4294967296) hn nan0
  have he := eq32 hx (by decide : 0 < 4294967296) hn nan0
  rw [pl0] at hl he
  by_cases h0 : pl Ieee.single x = 0
  · have hr := pl_zero h0
    have hs := split32 x hx
    rw [hr] at hs
    rw [h0] at hl he
    simp only [Int.lt_irrefl, decide_false, decide_true] at hl he
    cases hg : sg Ieee.single x with
    | true =>
      rw [hg] at hs
      have hx2 : x = 2147483648 := by rw [hs]; decide
      subst hx2
      have hd := run_float_arith (P := Try.prog) w .quo 28 .f32 1065353216 2147483648 4286578688 (by decide +kernel)
      have hl2 : (FloatKind.f32.format.order 4286578688 0 == some .lt) = true := by decide +kernel
      clear hn h0 hr hs hg
      go_enter Try.func83, Try.ntmps83
      go_wp2
      go_ret
      exact ⟨rfl, rfl⟩
    | false =>
      rw [hg] at hs
      have hx2 : x = 0 := by rw [hs]; decide
      subst hx2
      have hd := run_float_arith (P := Try.prog) w .quo 28 .f32 1065353216 0 2139095040 (by decide +kernel)
      have hl2 : (FloatKind.f32.format.order 2139095040 0 == some .lt) = false := by decide +kernel
      clear hn h0 hr hs hg
      go_enter Try.func83, Try.ntmps83
      go_wp2
      go_ret
      exact ⟨rfl, rfl⟩
  · have hs := sg_of_pl h0
    have HS := Lib.hid hs
    rw [show decide (pl Ieee.single x = 0) = false by simpa using h0] at he
    clear hs hn
    by_cases hlt : pl Ieee.single x < 0
    · rw [show decide (pl Ieee.single x < 0) = true by simpa using hlt] at hl
      clear h0
      go_enter Try.func83, Try.ntmps83
      go_wp2
      go_ret
      exact ⟨ret_bool (by rw [HS.out]; simp [hlt]), rfl⟩
    · rw [show decide (pl Ieee.single x < 0) = false by simpa using hlt] at hl
      clear h0
      go_enter Try.func83, Try.ntmps83
      go_wp2
      go_ret
      exact ⟨ret_bool (by rw [HS.out]; simp [hlt]), rfl⟩
theorem opp0 : opp 0 = 2147483648 := by decide
theorem sZero {w : World} (b : Bool) : Calls Try.prog 46 #[.bool b] w fun en w' => en = .returned (.float .f32 (z0 b)) ∧ w = w' := by
  have ht := l01Turned 0 (by decide) nan0 w
  rw [opp0] at ht
  have HT := Lib.hid ht
  clear ht
  cases b
  all_goals
    go_enter Try.func46, Try.ntmps46
    go_wp2_with (first | (go_at_call 42; refine HT.out.mono ?_; rintro en w1 ⟨rfl, rfl⟩))
    go_ret
    exact ⟨rfl, rfl⟩
theorem cSMode {w : World} (mode : Int) : Calls Try.prog 45 #[.int .i64 mode] w fun en w' => en = .returned (.bool (decide (0 ≤ mode ∧ mode ≤ 4))) ∧ Below w.heap.size w w' :=
  (spec_l03Mode.calls mode _ w (smode mode)).mono fun en w' h => ⟨h.1, h.2.below⟩
theorem sTwo {w : World} {x y : Nat} {mode : Int} (hx : x < 4294967296) (hy : y < 4294967296) :
    Calls Try.prog 38 #[.float .f32 x, .float .f32 y, .int .i64 mode] w fun en w' => en = .returned (.int .i64 (adI x y mode).2.2) ∧ Below w.heap.size w w' := by
  have HFX := Lib.hid (fun (W : World) => l01Finite x hx W)
  have HFY := Lib.hid (fun (W : World) => l01Finite y hy W)
  have HM := Lib.hid (fun (W : World) => cSMode (w := W) mode)
  have hr : (adI x y mode).2.2 = if (fin Ieee.single x && fin Ieee.single y) = true then (if decide (0 ≤ mode ∧ mode ≤ 4) = true then 0 else 2) else 1 := by
    rcases adI_cases x y mode with ⟨fx, fy, hm, hr⟩ | ⟨hf, hm, hr⟩ | ⟨hf, hr⟩
    · rw [hr, fx, fy, decide_eq_true hm]; rfl
    · rw [hr, hf, decide_eq_false hm]; rfl
    · rw [hr, hf]; rfl
  rw [hr]
  clear hr
  generalize fin Ieee.single x = a at *
  generalize fin Ieee.single y = b at *
  generalize decide (0 ≤ mode ∧ mode ≤ 4) = m at *
  have step : ∀ W, Below w.heap.size w W → ∀ W', (∃ n, W' = W.drewN n) → Below w.heap.size w W' := fun W hb W' ⟨n, h⟩ => h ▸ pw_below_drewN hb n
  have HST := Lib.hid step
  clear step
  cases a with
  | false =>
    clear HFY HM
    go_enter Try.func38, Try.ntmps38
    go_wp2_with fail
    refine (HFX.out _).mono ?_
    rintro en w1 ⟨rfl, hn⟩
    have HB := Lib.hid (HST.out _ (Below.refl _ _) _ hn)
    clear hn
    go_wp2
    go_ret
    exact ⟨rfl, HB.out⟩
  | true =>
    cases b with
    | false =>
      clear HM
      go_enter Try.func38, Try.ntmps38
      go_wp2_with fail
      refine (HFX.out _).mono ?_
      rintro en w1 ⟨rfl, hn⟩
      have HB := Lib.hid (HST.out _ (Below.refl _ _) _ hn)
      clear hn
      go_wp2_with fail
      refine (HFY.out _).mono ?_
      rintro en w2 ⟨rfl, hn⟩
      have HB2 := Lib.hid (HST.out _ HB.out _ hn)
      clear hn
      go_wp2
      go_ret
      exact ⟨rfl, HB2.out⟩
    | true =>
      cases m
      all_goals
        go_enter Try.func38, Try.ntmps38
        go_wp2_with fail
        refine (HFX.out _).mono ?_
        rintro en w1 ⟨rfl, hn⟩
        have HB := Lib.hid (HST.out _ (Below.refl _ _) _ hn)
        clear hn
        go_wp2_with fail
        refine (HFY.out _).mono ?_
        rintro en w2 ⟨rfl, hn⟩
        have HB2 := Lib.hid (HST.out _ HB.out _ hn)
        clear hn
        go_wp2_with fail
        refine (HM.out _).mono ?_
        rintro en w3 ⟨rfl, hn⟩
        have HB3 := Lib.hid (HB2.out.trans (hn.mono HB2.out.size))
        clear hn
        go_wp2
        go_ret
        exact ⟨rfl, HB3.out⟩
def suS (z e y f : Int) (a b : Bool) (mode : Int) : Nat × Int :=
  if addz z e y f = 0 then (z0 (if z = 0 ∧ a = b then a else decide (mode = 1)), 0) else rnd (addz z e y f) (adde z e y f) mode
theorem sroundY {w : World} {A : Option Addr} {c : Nat} {z e mode : Int} {r1 : Int} {r2 : List Int} {r3 : Int} (hd : dy z e = (r1, r2, r3)) (h0 : z ≠ 0) (hb : bl z.natAbs ≤ 90000) (h1 : -90000 ≤ e) (h2 : e ≤ 9000) (h3 : 0 ≤ mode) (h4 : mode ≤ 4) (hC : (Kd.int .i64).C w A r2.length r2) (hc : r2.length ≤ c) :
    Calls Try.prog 30 #[.agg #[.int .i64 r1, .slice A r2.length c, .int .i64 r3], .int .i64 mode] w fun en w' => en = .returned (.tuple #[.float .f32 (rnd z e mode).1, .int .i64 (rnd z e mode).2]) ∧ Below w.heap.size w w' := by
  obtain ⟨z', e', ho⟩ := od z e
  obtain ⟨hz', hodd, k, hk, he', hkb⟩ := ho.pos h0
  have hbl := ho.bl
  rw [od_rnd ho mode]
  rw [ho.dy] at hd
  obtain ⟨rfl, hd2⟩ := Prod.mk.inj hd
  obtain ⟨rfl, rfl⟩ := Prod.mk.inj hd2
  exact sround hz' hodd (by omega) (by omega) (by omega) h3 h4 hC hc
theorem dy_sign (z e : Int) : (dy z e).1 = sgn z := by
  obtain ⟨z', e', ho⟩ := od z e
  rw [ho.dy]
  by_cases h0 : z = 0
  · obtain ⟨h1, _⟩ := ho.zero h0
    rw [h0, h1]
  · obtain ⟨_, _, k, h1, _⟩ := ho.pos h0
    conv => rhs; rw [h1]
    exact (sgn_two _ _).symm
set_option maxRecDepth 20000 in
set_option maxHeartbeats 1600000 in
theorem sSum {w : World} {A1 A2 : Option Addr} {c1 c2 : Nat} {z e y f mode : Int} {a b : Bool} (hz : bl z.natAbs ≤ 1000) (hy : bl y.natAbs ≤ 1000) (h1 : -1000 ≤ e) (h2 : e ≤ 1000) (h3 : -1000 ≤ f) (h4 : f ≤ 1000) (h5 : 0 ≤ mode) (h6 : mode ≤ 4)
    (hC1 : (Kd.int .i64).C w A1 (L z.natAbs).length (L z.natAbs)) (hc1 : (L z.natAbs).length ≤ c1) (hC2 : (Kd.int .i64).C w A2 (L y.natAbs).length (L y.natAbs)) (hc2 : (L y.natAbs).length ≤ c2) :
    Calls Try.prog 81 #[.agg #[.int .i64 (sgn z), .slice A1 (L z.natAbs).length c1, .int .i64 e], .agg #[.int .i64 (sgn y), .slice A2 (L y.natAbs).length c2, .int .i64 f], .bool a, .bool b, .int .i64 mode] w fun en w' => en = .returned (.tuple #[.float .f32 (suS z e y f a b mode).1, .int .i64 (suS z e y f a b mode).2]) ∧ Below w.heap.size w w' := by
  obtain ⟨K, hK⟩ := (Qc.saddD z y e f (by omega) (by omega) (by omega) (by omega) (by omega) (by omega)).rounds
  obtain ⟨r1, r2, r3, hr⟩ : ∃ r1 r2 r3, dy (addz z e y f) (adde z e y f) = (r1, r2, r3) := ⟨_, _, _, rfl⟩
  rw [hr] at hK
  have hds := dy_sign (addz z e y f) (adde z e y f)
  rw [hr] at hds
  have HA := Lib.hid (fun (W : World) (hb : Below w.heap.size w W) => spec_l03Add.calls K (sgn z) A1 c1 (L z.natAbs) e (sgn y) A2 c2 (L y.natAbs) f _ _ _ W (Kd.C_below hC1 hb) hc1 (Kd.C_below hC2 hb) hc2 hK)
  have hbl := addz_bl (d := 2000) hz hy (show e - f ≤ (2000 : Nat) by omega) (show f - e ≤ (2000 : Nat) by omega)
  have hlo : -1000 ≤ adde z e y f := adde_lo _ h1 h3
  have hhi : adde z e y f ≤ 1000 := adde_hi _ h2 h4
  have HR1 := Lib.hid (show addz z e y f ≠ 0 → suS z e y f a b mode = rnd (addz z e y f) (adde z e y f) mode from fun h => by unfold suS; rw [if_neg h])
  have HR0 := Lib.hid (show addz z e y f = 0 → suS z e y f a b mode = (z0 (if z = 0 ∧ a = b then a else decide (mode = 1)), 0) from fun h => by unfold suS; rw [if_pos h])
  have HSR := Lib.hid (fun (h0 : addz z e y f ≠ 0) (W : World) (A : Option Addr) (c : Nat) (hC : (Kd.int .i64).C W A r2.length r2) (hc : r2.length ≤ c) => sroundY (mode := mode) hr h0 (by omega) (by omega) (by omega) h5 h6 hC hc)
  have HZ := Lib.hid (fun (W : World) (b : Bool) => sZero (w := W) b)
  have HM := Lib.hid (((Mem.nil w).box 33 #[.int .i64 (sgn z), .slice A1 (L z.natAbs).length c1, .int .i64 e]).box 33 #[.int .i64 (sgn y), .slice A2 (L y.natAbs).length c2, .int .i64 f])
  clear hC1 hc1 hC2 hc2 hK hbl hlo hhi hz hy hr
  rw [Mu.alloc_size] at HM
  generalize (L z.natAbs).length = n1 at *
  generalize (L y.natAbs).length = n2 at *
  dsimp only at hds
  have HDS := Lib.hid hds
  clear hds
  generalize hW : (w.alloc (.cells #[.int .i64 (sgn z), .slice A1 n1 c1, .int .i64 e] 33)).alloc (.cells #[.int .i64 (sgn y), .slice A2 n2 c2, .int .i64 f] 33) = W0 at HM
  have HW := Lib.hid hW
  clear hW
  obtain ⟨d0, d1, d2, _⟩ := HM.out.cells3 (.head _)
  obtain ⟨c0, c1', c2', _⟩ := HM.out.cells3 (.tail _ (.head _))
  go_enter Try.func81, Try.ntmps81
  go_upto_region 1 with fail
  rw [HW.out]
  clear HW
  go_wp2_with fail
  refine (HA.out _ HM.out.1).mono ?_
  rintro en w3 ⟨u, rfl, hR, hb⟩
  obtain ⟨A3, c3, rfl⟩ := Kd.R_slice hR
  have HM3 := Lib.hid (Mem.row HM.out hR hb)
  clear hR hb HM d0 d1 d2 c0 c1' c2'
  go_upto_region 2 with fail
  have HM4 := Lib.hid (Mem.box HM3.out 33 #[.int .i64 r1, .slice A3 r2.length c3, .int .i64 r3])
  clear HM3
  generalize hW : w3.alloc (.cells #[.int .i64 r1, .slice A3 r2.length c3, .int .i64 r3] 33) = w4 at HM4 ⊢
  clear hW
  generalize hb : w3.heap.size = b4 at HM4 ⊢
  clear hb
  obtain ⟨d0, d1, d2, _⟩ := HM4.out.cells3 (.head _)
  obtain ⟨c0, c1', c2', _⟩ := HM4.out.cells3 (.tail _ (.tail _ (.tail _ (.head _))))
  by_cases hS : addz z e y f = 0
  · have HR := Lib.hid (HR0.out hS)
    have hr1 : r1 = 0 := by rw [HDS.out, hS]; rfl
    subst hr1
    clear HDS HSR HR0 HR1 hS d1 d2
    by_cases hz0 : z = 0
    · have hs0 : sgn z = 0 := by rw [hz0]; rfl
      rw [hs0] at c0
      clear hs0
      cases a <;> cases b
      all_goals
        first
          | rw [if_pos ⟨hz0, rfl⟩] at HR
          | rw [if_neg (fun h => Bool.noConfusion h.2)] at HR
        go_wp2_with (first | (go_at_call 46; refine (HZ.out _ _).mono ?_; rintro en w6 ⟨rfl, rfl⟩))
        go_ret2
        exact ⟨by rw [HR.out]; rfl, HM4.out.1⟩
    · have hs0 : sgn z = 1 ∨ sgn z = -1 := by have := sgn_cases z; omega
      rw [if_neg (fun h => hz0 h.1)] at HR
      clear hz0
      generalize sgn z = sz at *
      rcases hs0 with rfl | rfl
      all_goals
        go_wp2_with (first | (go_at_call 46; refine (HZ.out _ _).mono ?_; rintro en w6 ⟨rfl, rfl⟩))
        go_ret2
        exact ⟨by rw [HR.out]; rfl, HM4.out.1⟩
  · have HR := Lib.hid (HR1.out hS)
    have HS := Lib.hid (HSR.out hS)
    have hsg : r1 = 1 ∨ r1 = -1 := by have := sgn_cases (addz z e y f); have := HDS.out; omega
    clear HDS HSR HR0 HR1 hS c0 c1' c2'
    rcases hsg with rfl | rfl
    all_goals
      go_wp2_with fail
      refine (HS.out _ _ _ (HM4.out.reads (.tail _ (.head _))).1 (HM4.out.reads (.tail _ (.head _))).2).mono ?_
      rintro en w6 ⟨rfl, hb⟩
      have HM6 := Lib.hid (Mem.below HM4.out hb)
      clear hb
      go_wp2
      go_ret2
      exact ⟨by rw [HR.out]; rfl, HM6.out.1⟩
theorem od_bd {x : Nat} (fx : fin Ieee.single x = true) {z' e' : Int} (h : Od (zf x) (Wc.expo x) z' e') : bl z'.natAbs ≤ 24 ∧ -149 ≤ e' ∧ e' ≤ 129 := by
  have h1 := expo_bd fx
  have h2 := zf_bl x
  have h3 := h.bl
  refine ⟨by omega, ?_⟩
  by_cases h0 : zf x = 0
  · have := h.zero h0
    omega
  · obtain ⟨_, _, k, _, h4, h5⟩ := h.pos h0
    omega
theorem suS_aiF {x y : Nat} {a b c d : Int} (fx : fin Ieee.single x = true) (fy : fin Ieee.single y = true) (hx : Od (zf x) (Wc.expo x) a b) (hy : Od (zf y) (Wc.expo y) c d) (mode : Int) : suS a b c d (sg Ieee.single x) (sg Ieee.single y) mode = aiF x y mode := by
  have h1 := expo_bd fx
  have h2 := expo_bd fy
  have h3 := od_bd fx hx
  have h4 := od_bd fy hy
  obtain ⟨hz, hr⟩ := add_od hx hy (by unfold Ad.B; omega) (by unfold Ad.B; omega) (by unfold Ad.B; omega) (by unfold Ad.B; omega)
  have hxz : zf x = 0 ↔ a = 0 := ⟨fun h => (hx.zero h).1, fun h => Classical.byContradiction fun h' => (hx.pos h').1 h⟩
  unfold suS aiF
  by_cases h0 : addz (zf x) (Wc.expo x) (zf y) (Wc.expo y) = 0
  · rw [if_pos h0, if_pos (hz.1 h0)]
    congr 2
    have e1 : (decide (zf x = 0) && (sg Ieee.single x == sg Ieee.single y)) = decide (a = 0 ∧ sg Ieee.single x = sg Ieee.single y) := by
      rw [Bool.eq_iff_iff, Bool.and_eq_true, decide_eq_true_iff, beq_iff_eq, decide_eq_true_iff, hxz]
    rw [e1]
    simp only [decide_eq_true_eq]
  · rw [if_neg h0, if_neg (fun h => h0 (hz.2 h)), hr mode]
theorem sOd {w : World} {x : Nat} (hx : x < 4294967296) (fx : fin Ieee.single x = true) {a b : Int} (h : Od (zf x) (Wc.expo x) a b) :
    Calls Try.prog 82 #[.float .f32 x] w fun en w' => ∃ u, en = .returned (.agg #[.int .i64 (sgn a), u, .int .i64 b]) ∧ Kd.R (Kd.int .i64) 2 w' w.heap.size (fun _ => True) u (L a.natAbs) ∧ Below w.heap.size w w' := by
  have := sl03Of (w := w) x hx fx
  rw [h.dy] at this
  exact this
set_option maxHeartbeats 800000 in
theorem sl04Add {w : World} {x y : Nat} {mode : Int} (hx : x < 4294967296) (hy : y < 4294967296) (fx : fin Ieee.single x = true) (fy : fin Ieee.single y = true) (h4 : 0 ≤ mode) (h5 : mode ≤ 4) :
    Calls Try.prog 39 #[.float .f32 x, .float .f32 y, .int .i64 mode] w fun en w' => en = .returned (.tuple #[.float .f32 (aiF x y mode).1, .int .i64 (aiF x y mode).2]) ∧ Below w.heap.size w w' := by
  obtain ⟨a, b, ha⟩ := od (zf x) (Wc.expo x)
  obtain ⟨c, d, hc⟩ := od (zf y) (Wc.expo y)
  have hr := suS_aiF fx fy ha hc mode
  have hb1 := od_bd fx ha
  have hb2 := od_bd fy hc
  have HOX := Lib.hid (fun (W : World) => sOd (w := W) hx fx ha)
  have HOY := Lib.hid (fun (W : World) => sOd (w := W) hy fy hc)
  have HBX := Lib.hid (fun (W : World) => sBit x hx (nan_of_fin fx) W)
  have HBY := Lib.hid (fun (W : World) => sBit y hy (nan_of_fin fy) W)
  have HS := Lib.hid (fun (W : World) (A1 A2 : Option Addr) (c1 c2 : Nat) (hC1 : (Kd.int .i64).C W A1 (L a.natAbs).length (L a.natAbs)) (hc1 : (L a.natAbs).length ≤ c1) (hC2 : (Kd.int .i64).C W A2 (L c.natAbs).length (L c.natAbs)) (hc2 : (L c.natAbs).length ≤ c2) => sSum (a := sg Ieee.single x) (b := sg Ieee.single y) (mode := mode) (e := b) (f := d) (by omega) (by omega) (by omega) (by omega) (by omega) (by omega) h4 h5 hC1 hc1 hC2 hc2)
  rw [hr] at HS
  clear hr hb1 hb2 ha hc fx fy
  have HM := Lib.hid (Mem.nil w)
  go_enter Try.func39, Try.ntmps39
  go_wp2_with fail
  refine (HOX.out _).mono ?_
  rintro en w1 ⟨u, rfl, hR, hb⟩
  obtain ⟨A1, c1, rfl⟩ := Kd.R_slice hR
  have HM1 := Lib.hid (Mem.row HM.out hR hb)
  clear hR hb HM
  go_wp2_with fail
  refine (HOY.out _).mono ?_
  rintro en w2 ⟨u, rfl, hR, hb⟩
  obtain ⟨A2, c2, rfl⟩ := Kd.R_slice hR
  have HM2 := Lib.hid (Mem.row HM1.out hR hb)
  clear hR hb HM1
  go_wp2_with fail
  refine (HBX.out _).mono ?_
  rintro en w3 ⟨rfl, rfl⟩
  go_wp2_with fail
  refine (HBY.out _).mono ?_
  rintro en w3 ⟨rfl, rfl⟩
  go_wp2_with fail
  refine (HS.out _ _ _ _ _ (HM2.out.reads (.tail _ (.head _))).1 (HM2.out.reads (.tail _ (.head _))).2 (HM2.out.reads (.head _)).1 (HM2.out.reads (.head _)).2).mono ?_
  rintro en w4 ⟨rfl, hb⟩
  have HM4 := Lib.hid (Mem.below HM2.out hb)
  clear hb HM2
  go_wp2
  go_ret2
  exact ⟨rfl, HM4.out.1⟩
end Go.Proofs.Ytjddhnjjeomfjaa.Af
end
section
set_option linter.unusedVariables false
set_option linter.unusedSimpArgs false
namespace Go.Proofs.Ytjddhnjjeomfjaa.Ag
open Go.RowKit Go.Proofs.Ytjddhnjjeomfjaa.Ma Go.Proofs.YtjddhnjjeomfjaaW.PrintWords Go.Proofs.Ytjddhnjjeomfjaa.Ad Go.Proofs.Ytjddhnjjeomfjaa.Ae Go.Proofs.Ytjddhnjjeomfjaa.Af Go.Proofs.Ytjddhnjjeomfjaa.We Dg Fp
def exI (x y : Nat) : Bool × Int := (decide ((adI x y 0).2.2 = 0 ∧ (adI x y 0).2.1 = 0), (adI x y 0).2.2)
set_option maxHeartbeats 800000 in
theorem iExact {w : World} {x y : Nat} (hx : x < 4294967296) (hy : y < 4294967296) :
    Calls Try.prog 25 #[.float .f32 x, .float .f32 y] w fun en w' => en = .returned (.tuple #[.bool (exI x y).1, .int .i64 (exI x y).2]) ∧ Below w.heap.size w w' := by
  have ha := iAddIn (w := w) (mode := 0) hx hy
  unfold exI
  generalize adI x y 0 = r at *
  obtain ⟨r1, r2, r3⟩ := r
  dsimp only at ha ⊢
  have HA := Lib.hid ha
  clear ha
  by_cases h3 : r3 = 0
  · subst h3
    have hr : decide ((0 : Int) = 0 ∧ r2 = 0) = decide (r2 = 0) := by rw [Bool.eq_iff_iff, decide_eq_true_iff, decide_eq_true_iff]; exact ⟨fun h => h.2, fun h => ⟨rfl, h⟩⟩
    have HR := Lib.hid hr
    clear hr
    go_enter Try.func25, Try.ntmps25
    go_wp2_with fail
    refine HA.out.mono ?_
    rintro en w1 ⟨rfl, hb⟩
    have HB1 := Lib.hid hb
    clear hb
    go_wp2
    go_ret2
    exact ⟨by rw [HR.out]; rfl, HB1.out⟩
  · have hr : decide (r3 = 0 ∧ r2 = 0) = false := decide_eq_false (fun h => h3 h.1)
    have HR := Lib.hid hr
    have h3b : (r3 == 0) = false := by simpa using h3
    clear hr
    go_enter Try.func25, Try.ntmps25
    go_wp2_with fail
    refine HA.out.mono ?_
    rintro en w1 ⟨rfl, hb⟩
    have HB1 := Lib.hid hb
    clear hb
    go_wp2
    go_ret2
    exact ⟨by rw [HR.out]; rfl, HB1.out⟩
set_option maxHeartbeats 800000 in
theorem sExact {w : World} {x y : Nat} (hx : x < 4294967296) (hy : y < 4294967296) :
    Calls Try.prog 24 #[.float .f32 x, .float .f32 y] w fun en w' => en = .returned (.tuple #[.bool (exI x y).1, .int .i64 (exI x y).2]) ∧ Below w.heap.size w w' := by
  have ht := sTwo (w := w) (mode := 0) hx hy
  rcases adI_cases x y 0 with ⟨fx, fy, hm, hr⟩ | hbad
  · have ha := fun (W : World) => sl04Add (w := W) (mode := 0) hx hy fx fy hm.1 hm.2
    rw [hr] at ht
    have he : exI x y = (decide ((aiF x y 0).2 = 0), 0) := by
      unfold exI
      rw [hr]
      show (decide ((0 : Int) = 0 ∧ (aiF x y 0).2 = 0), (0 : Int)) = _
      congr 1
      rw [Bool.eq_iff_iff, decide_eq_true_iff, decide_eq_true_iff]; exact ⟨fun h => h.2, fun h => ⟨rfl, h⟩⟩
    rw [he]
    generalize aiF x y 0 = q at *
    obtain ⟨q1, q2⟩ := q
    dsimp only at ha ⊢
    have HA := Lib.hid ha
    have HT := Lib.hid ht
    clear hr hm fx fy ht he ha
    go_enter Try.func24, Try.ntmps24
    go_wp2_with fail
    refine HT.out.mono ?_
    rintro en w1 ⟨rfl, hb⟩
    have HB1 := Lib.hid hb
    clear hb
    go_wp2_with fail
    refine (HA.out _).mono ?_
    rintro en w3 ⟨rfl, hb⟩
    have HB3 := Lib.hid (below_then HB1.out hb)
    clear hb
    go_wp2
    go_ret2
    exact ⟨rfl, HB3.out⟩
  · have hk : ∃ k : Int, (k = 1 ∨ k = 2) ∧ adI x y 0 = (0, 0, k) := by
      rcases hbad with ⟨_, _, hr⟩ | ⟨_, hr⟩
      · exact ⟨2, .inr rfl, hr⟩
      · exact ⟨1, .inl rfl, hr⟩
    obtain ⟨k, hk, hr⟩ := hk
    have he : exI x y = (false, k) := by
      unfold exI
      rw [hr]
      show (decide (k = 0 ∧ (0 : Int) = 0), k) = _
      rw [decide_eq_false (by omega)]
    rw [hr] at ht
    rw [he]
    have HT := Lib.hid ht
    clear hr ht hbad he
    rcases hk with rfl | rfl
    all_goals
      go_enter Try.func24, Try.ntmps24
      go_wp2_with fail
      refine HT.out.mono ?_
      rintro en w1 ⟨rfl, hb⟩
      have HB1 := Lib.hid hb
      clear hb
      go_wp2
      go_ret2
      exact ⟨rfl, HB1.out⟩
end Go.Proofs.Ytjddhnjjeomfjaa.Ag
end
section
set_option linter.unusedVariables false
set_option linter.unusedSimpArgs false
namespace Go.Proofs.Ytjddhnjjeomfjaa.LIsExactSum
open Go.RowKit Go.Proofs.YtjddhnjjeomfjaaW.PrintWords Go.Proofs.Ytjddhnjjeomfjaa.Ma Go.Proofs.Ytjddhnjjeomfjaa.Ae Go.Proofs.Ytjddhnjjeomfjaa.Af Go.Proofs.Ytjddhnjjeomfjaa.Ag Fp
set_option maxRecDepth 20000 in
set_option maxHeartbeats 800000 in
theorem walk (w : World) (x : Nat) (hx0 : (Lit.float .f32 x).wf = true) (y : Nat) (hy0 : (Lit.float .f32 y).wf = true) :
    Calls Try.prog 8 #[.float .f32 x, .float .f32 y] w fun e w' => e = .returned (.bool true) ∧ Below w.heap.size w w' := by
  have hx : x < 4294967296 := by simpa [Lit.wf] using hx0
  have hy : y < 4294967296 := by simpa [Lit.wf] using hy0
  have sp := fun (W : World) => sExact (w := W) hx hy
  have im := fun (W : World) => iExact (w := W) hx hy
  generalize exI x y = r at sp im
  obtain ⟨g, cd⟩ := r
  dsimp only at sp im
  have SP := Lib.hid sp
  have IM := Lib.hid im
  clear hx0 hy0 hx hy sp im
  cases g
  all_goals
    go_enter Try.func8, Try.ntmps8
    go_wp2_with fail
    refine (SP.out _).mono ?_
    rintro e w1 ⟨rfl, hb⟩
    have HB1 := Lib.hid hb
    clear hb
    go_wp2_with fail
    refine (IM.out _).mono ?_
    rintro e w2 ⟨rfl, hb⟩
    have HB2 := Lib.hid (below_then HB1.out hb)
    clear hb
    go_wp2
    go_ret
    exact ⟨rfl, HB2.out⟩
end Go.Proofs.Ytjddhnjjeomfjaa.LIsExactSum
end
