/- Lemmas of the claim: Mf, Mg, Mh, Mi, Mj, Mk, Ml, Mn, Mo, Mq, Mr, Mu, Na, Nd, Nf, Va, Nc, Ng, Vb. -/
import Derived.RegionTactic
import Derived.ChangeAlike
import Derived.Laws.CopyOwn
import Derived.Deep.OwnRows
import Derived.Test.YtdboepiobaehkaaQdofm
import Derived.Test.YtdboepiobaehkaaQdofg
import Derived.Deep.RegionLaw
import Derived.Test.YtdboepiobaehkaaQdofh
import Derived.Test.YtdboepiobaehkaaQdofi
section
set_option linter.unusedVariables false
set_option linter.unusedSimpArgs false
namespace Go.Proofs.Ytdboepiobaehkaa.Mf
open Go.RowKit Go.Proofs.YtdboepiobaehkaaW.PrintWords Go.Proofs.Ytdboepiobaehkaa.PW Go.Proofs.Ytdboepiobaehkaa.Pc Go.Proofs.Ytdboepiobaehkaa.Ma Go.Proofs.Ytdboepiobaehkaa.Mb Go.Proofs.Ytdboepiobaehkaa.Mc Go.Proofs.Ytdboepiobaehkaa.Md Go.Proofs.Ytdboepiobaehkaa.Me Dg
theorem D_or (a b i : Nat) : (D (a ||| b)).getD i 0 = (((a / 4294967296 ^ i % 4294967296) ||| (b / 4294967296 ^ i % 4294967296) : Nat) : Int) := by
  rw [D_getD]
  congr 1
  rw [show (4294967296 : Nat) = 2 ^ 32 from rfl, ← Nat.pow_mul]
  have h1 : (a ||| b) / 2 ^ (32 * i) = a / 2 ^ (32 * i) ||| b / 2 ^ (32 * i) := by
    rw [← Nat.shiftRight_eq_div_pow, ← Nat.shiftRight_eq_div_pow, ← Nat.shiftRight_eq_div_pow, Nat.shiftRight_or_distrib]
  rw [h1, Nat.or_mod_two_pow]
theorem or_list {a b : Nat} {ys : List Int} (hl : ys.length = max (D a).length (D b).length) (h : ∀ j, j < ys.length → ys.getD j 0 = bits .or .u32 ((D a).getD j 0) ((D b).getD j 0)) : Dig 4294967296 ys ∧ val 4294967296 ys = ((a ||| b : Nat) : Int) := by
  have hb : ∀ j, bits .or .u32 ((D a).getD j 0) ((D b).getD j 0) = (((a ||| b) / 4294967296 ^ j % 4294967296 : Nat) : Int) := by
    intro j
    rw [← D_getD, D_or, D_getD, D_getD]
    exact (bits_nat .u32 32 (by decide) Po.wraps_u32 _ _ (Nat.mod_lt _ (by decide)) (Nat.mod_lt _ (by decide))).2
  have h2 : ∀ j, j < ys.length → ys.getD j 0 = (((a ||| b) / 4294967296 ^ j % 4294967296 : Nat) : Int) := fun j hj => by rw [h j hj, hb]
  constructor
  · exact dig_of_getD fun j hj => by rw [h2 j hj]; have := Nat.mod_lt ((a ||| b) / 4294967296 ^ j) (show 0 < 4294967296 by decide); omega
  · rw [val_digits (by decide) ys (a ||| b) h2]
    congr 1
    apply Nat.mod_eq_of_lt
    have e : (4294967296 : Nat) = 2 ^ 32 := rfl
    rw [e, ← Nat.pow_mul]
    apply Nat.or_lt_two_pow
    · have := D_bl a
      have h3 := lt_bl a
      have := Nat.pow_le_pow_right (n := 2) (by decide) (show bl a ≤ 32 * ys.length by omega)
      omega
    · have := D_bl b
      have h3 := lt_bl b
      have := Nat.pow_le_pow_right (n := 2) (by decide) (show bl b ≤ 32 * ys.length by omega)
      omega
def OrTo (a b : Nat) (m i : Nat) (ys : List Int) : Prop := ys.length = m ∧ (∀ j, j < i → ys.getD j 0 = bits .or .u32 ((D a).getD j 0) ((D b).getD j 0)) ∧ (∀ j, i ≤ j → ys.getD j 0 = (D a).getD j 0)
theorem OrTo.step {a b m i : Nat} {ys : List Int} (h : OrTo a b m i ys) (hi : i < m) : OrTo a b m (i + 1) (ys.set i (bits .or .u32 ((D a).getD i 0) ((D b).getD i 0))) := by
  obtain ⟨h1, h2, h3⟩ := h
  refine ⟨by simpa using h1, fun j hj => ?_, fun j hj => ?_⟩
  · by_cases e : j = i
    · subst e; rw [Dg.getD_set_eq (by omega)]
    · rw [Dg.getD_set_ne (by omega)]; exact h2 j (by omega)
  · rw [Dg.getD_set_ne (by omega)]; exact h3 j (by omega)
theorem or_zero (a j : Nat) : bits .or .u32 ((D a).getD j 0) 0 = (D a).getD j 0 := by
  have := (bits_nat .u32 32 (by decide) Po.wraps_u32 (a / 4294967296 ^ j % 4294967296) 0 (Nat.mod_lt _ (by decide)) (by decide)).2
  rw [D_getD]
  simpa using this
theorem OrTo.done {a b m : Nat} {ys : List Int} (h : OrTo a b m (D b).length ys) (hm : m = max (D a).length (D b).length) : Dig 4294967296 ys ∧ val 4294967296 ys = ((a ||| b : Nat) : Int) := by
  obtain ⟨h1, h2, h3⟩ := h
  refine or_list (by omega) fun j hj => ?_
  by_cases hjb : j < (D b).length
  · exact h2 j hjb
  · rw [h3 j (by omega), getD_ge (l := D b) (by omega), or_zero]
end Go.Proofs.Ytdboepiobaehkaa.Mf
end
section
namespace Go.Proofs.Ytdboepiobaehkaa.Mg
end Go.Proofs.Ytdboepiobaehkaa.Mg
end
section
namespace Go.Proofs.Ytdboepiobaehkaa.Mh
end Go.Proofs.Ytdboepiobaehkaa.Mh
end
section
set_option linter.unusedVariables false
set_option linter.unusedSimpArgs false
namespace Go.Proofs.Ytdboepiobaehkaa.Mi
open Go.RowKit Go.Proofs.YtdboepiobaehkaaW.PrintWords Go.Proofs.Ytdboepiobaehkaa.PW Go.Proofs.Ytdboepiobaehkaa.Pc Go.Proofs.Ytdboepiobaehkaa.Ma Go.Proofs.Ytdboepiobaehkaa.Mb Go.Proofs.Ytdboepiobaehkaa.Mc Go.Proofs.Ytdboepiobaehkaa.Md Go.Proofs.Ytdboepiobaehkaa.Me Dg
open Pm (sgn)
set_option maxHeartbeats 800000 in
theorem cmp {w : World} {p q : Nat} {x y : Int} (hx : Z w p x) (hy : Z w q y) (h1 : bl x.natAbs ≤ 1073741823) (h2 : bl y.natAbs ≤ 1073741823) :
    Calls Try.prog 173 #[.pointer (some ⟨p, 0, none⟩), .pointer (some ⟨q, 0, none⟩)] w (Tells w (.int .i64 (sgn (x - y)))) := by
  obtain ⟨A, c, k0, k1, hm, hp⟩ := Z.open hx
  obtain ⟨B, d, j0, j1, hn, hq⟩ := Z.open hy
  have hC := fun (W : World) (hb : Below w.heap.size w W) => cCmp (hm.below hb) (hn.below hb) (by omega) (by omega)
  have hD := fun (W : World) (hb : Below w.heap.size w W) => cCmp (hn.below hb) (hm.below hb) (by omega) (by omega)
  by_cases hxn : x < 0 <;> by_cases hyn : y < 0
  · have e : sgn ((y.natAbs : Int) - x.natAbs) = sgn (x - y) := by congr 1; omega
    rw [e] at hD
    rw [show decide (x < 0) = true by simpa using hxn] at k0
    rw [show decide (y < 0) = true by simpa using hyn] at j0
    have HD := Lib.hid hD
    clear hC hD e hxn hyn h1 h2 hm hn hx hy
    go_enter Try.func173, Try.ntmps173
    go_wp2
    go_quiet ((go_at_call 213; exact Calls.quiet_of (HD.out _ (below_drawn _))))
    go_wp2
    go_ret
    exact ⟨rfl, _, rfl⟩
  · have e : sgn (x - y) = -1 := by unfold sgn; rw [if_pos (by omega)]
    rw [e]
    rw [show decide (x < 0) = true by simpa using hxn] at k0
    rw [show decide (y < 0) = false by simpa using hyn] at j0
    clear hC hD e hxn hyn h1 h2 hm hn hx hy
    go_enter Try.func173, Try.ntmps173
    go_wp2
    go_ret
    exact ⟨rfl, 0, rfl⟩
  · have e : sgn (x - y) = 1 := by unfold sgn; rw [if_neg (by omega), if_neg (by omega)]
    rw [e]
    rw [show decide (x < 0) = false by simpa using hxn] at k0
    rw [show decide (y < 0) = true by simpa using hyn] at j0
    clear hC hD e hxn hyn h1 h2 hm hn hx hy
    go_enter Try.func173, Try.ntmps173
    go_wp2
    go_ret
    exact ⟨rfl, 0, rfl⟩
  · have e : sgn ((x.natAbs : Int) - y.natAbs) = sgn (x - y) := by congr 1; omega
    rw [e] at hC
    rw [show decide (x < 0) = false by simpa using hxn] at k0
    rw [show decide (y < 0) = false by simpa using hyn] at j0
    have HC := Lib.hid hC
    clear hC hD e hxn hyn h1 h2 hm hn hx hy
    go_enter Try.func173, Try.ntmps173
    go_wp2
    go_quiet ((go_at_call 213; exact Calls.quiet_of (HC.out _ (below_drawn _))))
    go_wp2
    go_ret
    exact ⟨rfl, _, rfl⟩
def sv (n : Bool) (m : Nat) : Int := if n = true then -(m : Int) else m
theorem sv_abs (z : Int) : sv (decide (z < 0)) z.natAbs = z := natAbs_if z
set_option maxHeartbeats 1600000 in
theorem plus {w : World} {p q : Nat} {x : Int} {neg : Bool} {B : Option Addr} {d m : Nat} (hp : Blk w p) (hx : Z w q x) (hn : Mg w B d (D m)) (h1 : bl x.natAbs ≤ 536870912) (h2 : bl m ≤ 536870912) :
    Calls Try.prog 200 #[.pointer (some ⟨p, 0, none⟩), .pointer (some ⟨q, 0, none⟩), .bool neg, .slice B (D m).length d] w (Puts w p (x + sv neg m)) := by
  obtain ⟨A, c, k0, k1, hm, hq⟩ := Z.open hx
  have hadd := bl_add_le x.natAbs m
  have hA := fun (W : World) (hb : Below w.heap.size w W) => (cAdd (hm.below hb) (hn.below hb) (by omega) (by omega)).mono fun e w' h => GivesMg.of hb h
  have hC := fun (W : World) (hb : Below w.heap.size w W) => cCmp (hm.below hb) (hn.below hb) (by omega) (by omega)
  by_cases hs : decide (x < 0) = neg
  · -- one sign
    have e : (if neg = true then -((x.natAbs + m : Nat) : Int) else ((x.natAbs + m : Nat) : Int)) = x + sv neg m := by
      rw [← sv_abs x, hs]; unfold sv
      cases neg <;> simp <;> omega
    have hP := fun (w1 : World) (A' : Option Addr) (c' : Nat) h1 h2 => put_of (w1 := w1) (A := A') (c := c') (neg := neg) (n := x.natAbs + m) hp h1 h2 (by omega)
    rw [e] at hP
    rw [hs] at k0
    have HP := Lib.hid hP
    have HA := Lib.hid hA
    clear hA hC hP e hs hadd h1 h2 hm hn hx hp
    cases neg
    all_goals
      go_enter Try.func200, Try.ntmps200
      go_wp2_with fail
      refine (HA.out _ (Below.refl _ _)).mono ?_
      rintro e w1 ⟨A', c', rfl, hm', hb'⟩
      have HPM := Lib.hid (HP.out w1 A' c' hb' hm')
      clear hm' hb'
      go_wp2_with fail
      refine HPM.out.mono ?_
      rintro e w2 ⟨rfl, hz2, hg2⟩
      have HE := Lib.hid (show Puts w p _ _ w2 from ⟨rfl, hz2, hg2⟩)
      clear hz2 hg2
      go_wp2
      go_ret
      exact HE.out
  · have hneq : neg = !decide (x < 0) := by cases neg <;> cases h : decide (x < 0) <;> simp_all
    by_cases hge : m ≤ x.natAbs
    · have hS := fun (W : World) (hb : Below w.heap.size w W) => (cSub (hm.below hb) (hn.below hb) (by omega) hge).mono fun e w' h => GivesMg.of hb h
      have hmo := bl_mono (Nat.sub_le x.natAbs m)
      have e : (if decide (x < 0) = true then -((x.natAbs - m : Nat) : Int) else ((x.natAbs - m : Nat) : Int)) = x + sv neg m := by
        rw [hneq]; unfold sv
        by_cases h : x < 0 <;> simp [h] <;> omega
      have hP := fun (w1 : World) (A' : Option Addr) (c' : Nat) h1 h2 => put_of (w1 := w1) (A := A') (c := c') (neg := decide (x < 0)) (n := x.natAbs - m) hp h1 h2 (by omega)
      rw [e] at hP
      have es : sgn ((x.natAbs : Int) - m) = sgn ((x.natAbs - m : Nat) : Int) := by congr 1; omega
      have es0 : 0 ≤ sgn ((x.natAbs : Int) - m) := by unfold sgn; split <;> (try split) <;> omega
      have HP := Lib.hid hP
      have HS := Lib.hid hS
      have HC := Lib.hid hC
      clear hA hC hP hS e hs hadd h1 h2 hm hn hx hp es hmo hge
      generalize sgn ((x.natAbs : Int) - m) = sg at *
      rw [hneq] at *
      clear hneq
      generalize decide (x < 0) = b at *
      cases b
      all_goals
        go_enter Try.func200, Try.ntmps200
        go_wp2_with fail
        refine (HC.out _ (Below.refl _ _)).mono ?_
        rintro e w1 ⟨rfl, n, rfl⟩
        go_wp2_with fail
        go_region_with (first | (go_at_call 211; refine (HS.out _ (by first | exact below_drawn _ | exact (below_drawn _).drew)).mono ?_; rintro e w1 ⟨A', c', rfl, hm', hb'⟩; have HPM := Lib.hid (HP.out w1 A' c' hb' hm'); have k0' := (hb'.cell (p := ⟨q, 0, none⟩) hq).trans k0; clear hm' hb') | (go_at_call 182; refine HPM.out.mono ?_; rintro e w2 ⟨rfl, hz2, hg2⟩; have HE := Lib.hid (show Puts w p _ _ w2 from ⟨rfl, hz2, hg2⟩); clear hz2 hg2))
        all_goals go_wp2
        all_goals go_ret
        all_goals exact HE.out
    · have hS := fun (W : World) (hb : Below w.heap.size w W) => (cSub (hn.below hb) (hm.below hb) (by omega) (by omega)).mono fun e w' h => GivesMg.of hb h
      have hmo := bl_mono (Nat.sub_le m x.natAbs)
      have e : (if neg = true then -((m - x.natAbs : Nat) : Int) else ((m - x.natAbs : Nat) : Int)) = x + sv neg m := by
        rw [hneq]; unfold sv
        by_cases h : x < 0 <;> simp [h] <;> omega
      have hP := fun (w1 : World) (A' : Option Addr) (c' : Nat) h1 h2 => put_of (w1 := w1) (A := A') (c := c') (neg := neg) (n := m - x.natAbs) hp h1 h2 (by omega)
      rw [e] at hP
      have es : sgn ((x.natAbs : Int) - m) = -1 := by unfold sgn; rw [if_pos (by omega)]
      rw [es] at hC
      have HP := Lib.hid hP
      have HS := Lib.hid hS
      have HC := Lib.hid hC
      clear hA hC hP hS e hs hadd h1 h2 hm hn hx hp es hmo hge
      rw [hneq] at *
      clear hneq
      generalize decide (x < 0) = b at *
      cases b
      all_goals
        go_enter Try.func200, Try.ntmps200
        go_wp2_with fail
        refine (HC.out _ (Below.refl _ _)).mono ?_
        rintro e w1 ⟨rfl, n, rfl⟩
        go_wp2_with fail
        refine (HS.out _ (below_drawn _)).mono ?_
        rintro e w1 ⟨A', c', rfl, hm', hb'⟩
        have HPM := Lib.hid (HP.out w1 A' c' hb' hm')
        clear hm' hb'
        go_wp2_with fail
        refine HPM.out.mono ?_
        rintro e w2 ⟨rfl, hz2, hg2⟩
        have HE := Lib.hid (show Puts w p _ _ w2 from ⟨rfl, hz2, hg2⟩)
        clear hz2 hg2
        go_wp2
        go_ret
        exact HE.out
end Go.Proofs.Ytdboepiobaehkaa.Mi
end
section
set_option linter.unusedVariables false
set_option linter.unusedSimpArgs false
namespace Go.Proofs.Ytdboepiobaehkaa.Mj
open Go.RowKit Go.Proofs.YtdboepiobaehkaaW.PrintWords Go.Proofs.Ytdboepiobaehkaa.PW Go.Proofs.Ytdboepiobaehkaa.Pc Go.Proofs.Ytdboepiobaehkaa.Ma Go.Proofs.Ytdboepiobaehkaa.Mb Go.Proofs.Ytdboepiobaehkaa.Mc Go.Proofs.Ytdboepiobaehkaa.Md Go.Proofs.Ytdboepiobaehkaa.Me Go.Proofs.Ytdboepiobaehkaa.Mi Dg
open Pm (sgn)
theorem Puts.of {w W w' : World} {p : Nat} {z : Int} {e : Ending} (hb : Below w.heap.size w W) (h : Puts W p z e w') : Puts w p z e w' := Mc.Puts.below hb h
set_option maxHeartbeats 1600000 in
theorem add {w : World} {p q s : Nat} {x y : Int} (hp : Blk w p) (hx : Z w q x) (hy : Z w s y) (h1 : bl x.natAbs ≤ 536870912) (h2 : bl y.natAbs ≤ 536870912) :
    Calls Try.prog 152 #[.pointer (some ⟨p, 0, none⟩), .pointer (some ⟨q, 0, none⟩), .pointer (some ⟨s, 0, none⟩)] w (Puts w p (x + y)) := by
  obtain ⟨B, d, j0, j1, hn, hs⟩ := Z.open hy
  have hP := fun (W : World) (hb : Below w.heap.size w W) => (plus (neg := decide (y < 0)) (hp.below hb) (hx.below hb) (hn.below hb) h1 h2).mono fun e w' h => Puts.of hb h
  rw [sv_abs] at hP
  have HP := Lib.hid hP
  clear hP hn h1 h2 hp hx hy
  generalize decide (y < 0) = b at *
  go_enter Try.func152, Try.ntmps152
  go_wp2
  go_region_with (go_at_call 200; refine (HP.out _ (by first | exact Below.refl _ _ | exact (Below.refl _ _).drew)).mono ?_; rintro e w2 ⟨rfl, hz2, hg2⟩; have HE := Lib.hid (show Puts w p (x + y) _ w2 from ⟨rfl, hz2, hg2⟩); clear hz2 hg2)
  all_goals go_wp2
  all_goals go_ret
  all_goals exact HE.out
set_option maxHeartbeats 1600000 in
theorem sub {w : World} {p q s : Nat} {x y : Int} (hp : Blk w p) (hx : Z w q x) (hy : Z w s y) (h1 : bl x.natAbs ≤ 536870912) (h2 : bl y.natAbs ≤ 536870912) :
    Calls Try.prog 171 #[.pointer (some ⟨p, 0, none⟩), .pointer (some ⟨q, 0, none⟩), .pointer (some ⟨s, 0, none⟩)] w (Puts w p (x - y)) := by
  obtain ⟨B, d, j0, j1, hn, hs⟩ := Z.open hy
  have hP := fun (W : World) (hb : Below w.heap.size w W) => (plus (neg := !decide (y < 0)) (hp.below hb) (hx.below hb) (hn.below hb) h1 h2).mono fun e w' h => Puts.of hb h
  rw [show sv (!decide (y < 0)) y.natAbs = -y from natAbs_neg_if y, ← Int.sub_eq_add_neg] at hP
  have HP := Lib.hid hP
  clear hP hn h1 h2 hp hx hy
  generalize decide (y < 0) = b at *
  go_enter Try.func171, Try.ntmps171
  go_wp2
  go_region_with (go_at_call 200; refine (HP.out _ (by first | exact Below.refl _ _ | exact (Below.refl _ _).drew)).mono ?_; rintro e w2 ⟨rfl, hz2, hg2⟩; have HE := Lib.hid (show Puts w p (x - y) _ w2 from ⟨rfl, hz2, hg2⟩); clear hz2 hg2)
  all_goals go_wp2
  all_goals go_ret
  all_goals exact HE.out
theorem mul_sign (x y : Int) : (if (decide (x < 0) != decide (y < 0)) = true then -((x.natAbs * y.natAbs : Nat) : Int) else ((x.natAbs * y.natAbs : Nat) : Int)) = x * y := by
  rw [Int.natCast_mul]
  by_cases hx : x < 0 <;> by_cases hy : y < 0
  · rw [show (x.natAbs : Int) = -x by omega, show (y.natAbs : Int) = -y by omega]; simp [hx, hy, Int.neg_mul_neg]
  · rw [show (x.natAbs : Int) = -x by omega, show (y.natAbs : Int) = y by omega]; simp [hx, hy, Int.neg_mul]
  · rw [show (x.natAbs : Int) = x by omega, show (y.natAbs : Int) = -y by omega]; simp [hx, hy, Int.mul_neg]
  · rw [show (x.natAbs : Int) = x by omega, show (y.natAbs : Int) = y by omega]; simp [hx, hy]
set_option maxHeartbeats 1600000 in
theorem mul {w : World} {p q s : Nat} {x y : Int} (hp : Blk w p) (hx : Z w q x) (hy : Z w s y) (h : bl x.natAbs + bl y.natAbs ≤ 536870912) (hpq : p ≠ q) (hps : p ≠ s) :
    Calls Try.prog 146 #[.pointer (some ⟨p, 0, none⟩), .pointer (some ⟨q, 0, none⟩), .pointer (some ⟨s, 0, none⟩)] w (Puts w p (x * y)) := by
  obtain ⟨A, c, k0, k1, hm, hq⟩ := Z.open hx
  obtain ⟨B, d, j0, j1, hn, hs⟩ := Z.open hy
  have hbl := bl_mul_le x.natAbs y.natAbs
  have hL := fun (W : World) (hb : Below w.heap.size w W) => (cMul (hm.below hb) (hn.below hb) (by omega)).mono fun e w' h => GivesMg.of hb h
  have hP := fun (w1 : World) (A' : Option Addr) (c' : Nat) h1 h2 => put_of (w1 := w1) (A := A') (c := c') (neg := decide (x < 0) != decide (y < 0)) (n := x.natAbs * y.natAbs) hp h1 h2 (by omega)
  rw [mul_sign] at hP
  have hK : ∀ w1, w.grownBy w1 (some p) → (w1.cell? ⟨q, 0, none⟩ = some (.bool (decide (x < 0))) ∧ w1.cell? ⟨q, 1, none⟩ = some (.slice A (D x.natAbs).length c) ∧ w1.cell? ⟨s, 0, none⟩ = some (.bool (decide (y < 0))) ∧ w1.cell? ⟨s, 1, none⟩ = some (.slice B (D y.natAbs).length d)) := fun w1 hg =>
    ⟨hg.cell k0 (by simp; omega), hg.cell k1 (by simp; omega), hg.cell j0 (by simp; omega), hg.cell j1 (by simp; omega)⟩
  have HL := Lib.hid hL
  have HP := Lib.hid hP
  have HK := Lib.hid hK
  clear hK hL hP h hbl hm hn hp hx hy hpq hps
  generalize hb1 : decide (x < 0) = b1 at *
  generalize hb2 : decide (y < 0) = b2 at *
  clear hb1 hb2
  go_enter Try.func146, Try.ntmps146
  go_wp2
  go_region_held3 (fun w' => w'.cell? ⟨q, 0, none⟩ = some (.bool b1) ∧ w'.cell? ⟨q, 1, none⟩ = some (.slice A (D x.natAbs).length c) ∧ w'.cell? ⟨s, 0, none⟩ = some (.bool b2) ∧ w'.cell? ⟨s, 1, none⟩ = some (.slice B (D y.natAbs).length d)) (go_keep)
    (first | (go_at_call 195; refine (HL.out _ (by first | exact Below.refl _ _ | exact (Below.refl _ _).drew)).mono ?_; rintro e w1 ⟨A', c', rfl, hm', hb'⟩; have HPM := Lib.hid (HP.out w1 A' c' hb' hm'); obtain ⟨a0, a1, a2, a3⟩ := HK.out w1 (grown_below hb' _); clear hm' hb') | (go_at_call 182; refine HPM.out.mono ?_; rintro e w2 ⟨rfl, hz2, hg2⟩; obtain ⟨b0, b3, b4, b5⟩ := HK.out w2 hg2; have HE := Lib.hid (show Puts w p (x * y) _ w2 from ⟨rfl, hz2, hg2⟩); clear hz2 hg2))
  all_goals go_wp2
  all_goals go_ret
  all_goals exact HE.out
end Go.Proofs.Ytdboepiobaehkaa.Mj
end
section
set_option linter.unusedVariables false
set_option linter.unusedSimpArgs false
namespace Go.Proofs.Ytdboepiobaehkaa.Mk
open Go.RowKit Go.Proofs.YtdboepiobaehkaaW.PrintWords Go.Proofs.Ytdboepiobaehkaa.PW Go.Proofs.Ytdboepiobaehkaa.Pc Go.Proofs.Ytdboepiobaehkaa.Ma Go.Proofs.Ytdboepiobaehkaa.Mb Go.Proofs.Ytdboepiobaehkaa.Mc Go.Proofs.Ytdboepiobaehkaa.Md Go.Proofs.Ytdboepiobaehkaa.Me Go.Proofs.Ytdboepiobaehkaa.Mi Go.Proofs.Ytdboepiobaehkaa.Mj Dg
open Pm (sgn)
def lw (n k : Nat) : Int := val 4294967296 (((D n).take 2).drop k)
theorem lw_zero (n : Nat) : lw n 0 = ((n % 18446744073709551616 : Nat) : Int) := by
  unfold lw
  rw [List.drop_zero]
  have := (val_div_mod (by decide) (D_dig n) 2).2
  rw [D_val] at this
  rw [← this]
  rfl
theorem lw_end (n k : Nat) (h : 2 ≤ k ∨ (D n).length ≤ k) : lw n k = 0 := by
  unfold lw
  rw [List.drop_of_length_le (by simp; omega)]
  rfl
theorem lw_bd (n k : Nat) (h : 0 < k) : 0 ≤ lw n k ∧ lw n k < 4294967296 := by
  unfold lw
  have hd := ((D_dig n).take 2).drop k
  have h1 := val_nonneg hd
  have h2 := val_lt (by decide) hd
  refine ⟨h1, ?_⟩
  have h3 : (((D n).take 2).drop k).length ≤ 1 := by simp; omega
  have h4 : ((4294967296 : Nat) : Int) ^ (((D n).take 2).drop k).length ≤ 4294967296 := by
    rcases Nat.lt_or_ge (((D n).take 2).drop k).length 1 with h | h
    · have : (((D n).take 2).drop k).length = 0 := by omega
      rw [this]; decide
    · have : (((D n).take 2).drop k).length = 1 := by omega
      rw [this]; decide
  omega
theorem lw_step (n k : Nat) (h : k < 2) (hk : k < (D n).length) : bits .or .u64 (IntKind.u64.wrap (lw n (k + 1) * 4294967296)) ((D n).getD k 0) = lw n k := by
  have hb := lw_bd n (k + 1) (by omega)
  have hd := (D_dig n).all0 (by decide) k
  have e : lw n k = (D n).getD k 0 + 4294967296 * lw n (k + 1) := by
    unfold lw
    have := val_drop' (B := 4294967296) ((D n).take 2) k
    rw [this]
    congr 1
    simp [List.getD, List.getElem?_take, h]
  rw [Pn.u64_id (by omega) (by omega), e]
  have := Po.or_high (x := (D n).getD k 0) (y := lw n (k + 1)) hd.1 (by omega) hb.1 hb.2
  rw [← this]
  obtain ⟨a, ha⟩ := Int.eq_ofNat_of_zero_le hd.1
  obtain ⟨b, hb'⟩ := Int.eq_ofNat_of_zero_le hb.1
  have hd2 : a < 4294967296 := by have := hd.2; omega
  have hb2 : b < 4294967296 := by have := hb.2; omega
  rw [ha, hb']
  have e2 : (b : Int) * 4294967296 = ((b * 4294967296 : Nat) : Int) := by simp
  have h1 : a < 2 ^ 64 := by omega
  have h2 : b * 4294967296 < 2 ^ 64 := by omega
  rw [e2, (bits_nat .u64 64 (by decide) Po.wraps_u64 _ _ h2 h1).2, (bits_nat .u64 64 (by decide) Po.wraps_u64 _ _ h1 h2).2, Nat.or_comm]
set_option maxHeartbeats 1600000 in
theorem low {w : World} {q : Nat} {z : Int} (hz : Z w q z) : Calls Try.prog 214 #[.pointer (some ⟨q, 0, none⟩)] w fun e w' => e = .returned (.int .u64 ((z.natAbs % 18446744073709551616 : Nat) : Int)) ∧ w = w' := by
  obtain ⟨A, c, k0, k1, hm, hq⟩ := Z.open hz
  have hres := lw_zero z.natAbs
  have hcell : ∀ k, k < (D z.natAbs).length → ∃ ad, A = some ad ∧ w.cell? (ad.add k) = some (.int .u32 ((D z.natAbs).getD k 0)) := fun k hk => by
    obtain ⟨ad, hA, hc⟩ := Kd.at_int hm.1 (k : Int) (by omega) (by omega)
    rw [Int.toNat_natCast, rdN] at hc
    exact ⟨ad, hA, hc⟩
  have hmax : (D z.natAbs).length ≤ 9223372036854775807 := hm.1.2.1
  have hst := fun k h1 h2 => lw_step z.natAbs k h1 h2
  have hen := fun k h => lw_end z.natAbs k h
  have hdd := (D_dig z.natAbs).all0 (by decide)
  have hlb := fun k h => lw_bd z.natAbs k h
  have HR := Lib.hid hres
  have HC := Lib.hid hcell
  have HS := Lib.hid hst
  have HE := Lib.hid hen
  have HD := Lib.hid hdd
  have HLB := Lib.hid hlb
  clear hres hcell hm hz hst hen hdd hlb
  generalize hln : (D z.natAbs).length = n at *
  clear hln
  obtain ⟨m, hm2, hmn, hmm⟩ : ∃ m : Nat, m ≤ 2 ∧ m ≤ n ∧ (2 ≤ m ∨ n ≤ m) := ⟨min n 2, by omega, by omega, by omega⟩
  have hst0 : lw z.natAbs m = 0 := HE.out m hmm
  have HST := Lib.hid hst0
  clear hst0
  by_cases hlt : n < 2
  · obtain rfl : n = m := by omega
    go_enter Try.func214, Try.ntmps214
    go_wp2_with fail
    go_loop [3, 4] (fun u i => ∃ k : Nat, k ≤ n ∧ i = .int .i64 ((k : Int) - 1) ∧ u = .int .u64 (lw z.natAbs k)) (fun _ i => (intOf i + 1).toNat)
    case atStart => exact ⟨n, Nat.le_refl _, rfl, by rw [HST.out]⟩
    case round =>
      obtain ⟨k, hk, rfl, rfl⟩ := hrel
      cases k with
      | zero =>
        have e : ((0 : Nat) : Int) - 1 = -1 := rfl
        rw [e]
        go_wp2
        go_ret
        exact ⟨by show Ending.returned (Value.int .u64 (lw z.natAbs 0)) = _; rw [HR.out]; simp, rfl⟩
      | succ k =>
        have e : ((k + 1 : Nat) : Int) - 1 = (k : Int) := by omega
        rw [e]
        clear e
        obtain ⟨ad, hA, hc⟩ := HC.out k (by omega)
        subst hA
        have hs := Lib.hid (HS.out k (by omega) (by omega))
        have hd := HD.out k
        have hb := HLB.out (k + 1) (by omega)
        have hx := Pn.u64_id (n := lw z.natAbs (k + 1) * 4294967296) (by omega) (by omega)
        have hs2 := hs.out
        rw [hx] at hs2
        have HS2 := Lib.hid hs2
        clear hs hs2 hx
        generalize hl1 : lw z.natAbs (k + 1) = l1 at *
        generalize hd1 : (D z.natAbs).getD k 0 = d1 at *
        clear hl1 hd1
        go_wp2
        go_round
        case rel => exact ⟨k, by omega, rfl, by rw [HS2.out]⟩
        case measure => (simp [intOf]) <;> omega
  · obtain rfl : m = 2 := by omega
    by_cases hn2 : n = 2
    · subst hn2
      go_enter Try.func214, Try.ntmps214
      go_wp2_with fail
      go_loop [3, 4] (fun u i => ∃ k : Nat, k ≤ 2 ∧ i = .int .i64 ((k : Int) - 1) ∧ u = .int .u64 (lw z.natAbs k)) (fun _ i => (intOf i + 1).toNat)
      case atStart => exact ⟨2, Nat.le_refl _, rfl, by rw [HST.out]⟩
      case round =>
        obtain ⟨k, hk, rfl, rfl⟩ := hrel
        cases k with
        | zero =>
          have e : ((0 : Nat) : Int) - 1 = -1 := rfl
          rw [e]
          go_wp2
          go_ret
          exact ⟨by show Ending.returned (Value.int .u64 (lw z.natAbs 0)) = _; rw [HR.out]; simp, rfl⟩
        | succ k =>
          have e : ((k + 1 : Nat) : Int) - 1 = (k : Int) := by omega
          rw [e]
          clear e
          obtain ⟨ad, hA, hc⟩ := HC.out k (by omega)
          subst hA
          have hs := Lib.hid (HS.out k (by omega) (by omega))
          have hd := HD.out k
          have hb := HLB.out (k + 1) (by omega)
          have hx := Pn.u64_id (n := lw z.natAbs (k + 1) * 4294967296) (by omega) (by omega)
          have hs2 := hs.out
          rw [hx] at hs2
          have HS2 := Lib.hid hs2
          clear hs hs2 hx
          generalize hl1 : lw z.natAbs (k + 1) = l1 at *
          generalize hd1 : (D z.natAbs).getD k 0 = d1 at *
          clear hl1 hd1
          go_wp2
          go_round
          case rel => exact ⟨k, by omega, rfl, by rw [HS2.out]⟩
          case measure => (simp [intOf]) <;> omega

    · have hn3 : 2 < n := by omega
      clear hlt
      go_enter Try.func214, Try.ntmps214
      go_wp2_with fail
      go_loop [3, 4] (fun u i => ∃ k : Nat, k ≤ 2 ∧ i = .int .i64 ((k : Int) - 1) ∧ u = .int .u64 (lw z.natAbs k)) (fun _ i => (intOf i + 1).toNat)
      case atStart => exact ⟨2, Nat.le_refl _, rfl, by rw [HST.out]⟩
      case round =>
        obtain ⟨k, hk, rfl, rfl⟩ := hrel
        cases k with
        | zero =>
          have e : ((0 : Nat) : Int) - 1 = -1 := rfl
          rw [e]
          go_wp2
          go_ret
          exact ⟨by show Ending.returned (Value.int .u64 (lw z.natAbs 0)) = _; rw [HR.out]; simp, rfl⟩
        | succ k =>
          have e : ((k + 1 : Nat) : Int) - 1 = (k : Int) := by omega
          rw [e]
          clear e
          obtain ⟨ad, hA, hc⟩ := HC.out k (by omega)
          subst hA
          have hs := Lib.hid (HS.out k (by omega) (by omega))
          have hd := HD.out k
          have hb := HLB.out (k + 1) (by omega)
          have hx := Pn.u64_id (n := lw z.natAbs (k + 1) * 4294967296) (by omega) (by omega)
          have hs2 := hs.out
          rw [hx] at hs2
          have HS2 := Lib.hid hs2
          clear hs hs2 hx
          generalize hl1 : lw z.natAbs (k + 1) = l1 at *
          generalize hd1 : (D z.natAbs).getD k 0 = d1 at *
          clear hl1 hd1
          go_wp2
          go_round
          case rel => exact ⟨k, by omega, rfl, by rw [HS2.out]⟩
          case measure => (simp [intOf]) <;> omega
theorem natAbs_mod {z : Int} (h0 : -9223372036854775808 ≤ z) (h1 : z ≤ 9223372036854775807) : ((z.natAbs % 18446744073709551616 : Nat) : Int) = z.natAbs := by omega
set_option maxHeartbeats 800000 in
theorem int64 {w : World} {q : Nat} {z : Int} (hz : Z w q z) (h0 : -9223372036854775808 ≤ z) (h1 : z ≤ 9223372036854775807) : Calls Try.prog 175 #[.pointer (some ⟨q, 0, none⟩)] w fun e w' => e = .returned (.int .i64 z) ∧ w = w' := by
  obtain ⟨A, c, k0, k1, hm, hq⟩ := Z.open hz
  have hl := low hz
  rw [natAbs_mod h0 h1] at hl
  have HL := Lib.hid hl
  clear hl hm hz
  by_cases hn : z < 0
  · have e : IntKind.i64.wrap (-(IntKind.i64.wrap (z.natAbs : Int))) = z := by rw [IntKind.wrap_i64, IntKind.wrap_i64]; omega
    have e2 : wrap64 (-(wrap64 (z.natAbs : Int))) = z := by unfold wrap64; omega
    rw [show decide (z < 0) = true by simpa using hn] at k0
    have E := Lib.hid e2
    clear e e2 h0 h1 hn
    generalize (z.natAbs : Int) = a at *
    go_enter Try.func175, Try.ntmps175
    go_wp2_with fail
    refine HL.out.mono ?_
    rintro e w1 ⟨rfl, rfl⟩
    go_wp2
    go_ret
    exact ⟨by rw [← E.out]; rfl, rfl⟩
  · have e2 : wrap64 (z.natAbs : Int) = z := by unfold wrap64; omega
    rw [show decide (z < 0) = false by simpa using hn] at k0
    have E := Lib.hid e2
    clear e2 h0 h1 hn
    generalize (z.natAbs : Int) = a at *
    go_enter Try.func175, Try.ntmps175
    go_wp2_with fail
    refine HL.out.mono ?_
    rintro e w1 ⟨rfl, rfl⟩
    go_wp2
    go_ret
    exact ⟨by rw [← E.out]; rfl, rfl⟩
theorem D_one : D 1 = [1] := by
  have := D_of (l := [1]) (Dig.cons (by decide) (by decide) Dig.nil) (by intro _ h; simp at h)
  exact this
theorem Mg_one {w : World} : Mg (w.alloc (.cells #[.int .u32 1] 120)) (some ⟨w.heap.size, 0, none⟩) 1 (D 1) := by
  rw [D_one]
  exact Mg.row (xs := [1]) (heap_alloc_new w _) rfl (by simp)
theorem shr_neg {z : Int} (hz : z < 0) (n : Nat) : -(((z.natAbs - 1) / 2 ^ n + 1 : Nat) : Int) = z / 2 ^ n := by
  obtain ⟨m, hm⟩ : ∃ m : Nat, z = Int.negSucc m := ⟨z.natAbs - 1, by omega⟩
  subst hm
  have e : ((2 : Int) ^ n) = ((2 ^ n : Nat) : Int) := by simp
  rw [Int.negSucc_ediv _ (by rw [e]; have := Nat.two_pow_pos n; omega), e]
  show -(((m + 1 - 1) / 2 ^ n + 1 : Nat) : Int) = _
  rw [Nat.add_sub_cancel]
  rfl
theorem shr_pos {z : Int} (hz : ¬ z < 0) (n : Nat) : ((z.natAbs / 2 ^ n : Nat) : Int) = z / 2 ^ n := by
  have e : ((2 : Int) ^ n) = ((2 ^ n : Nat) : Int) := by simp
  obtain ⟨m, rfl⟩ := Int.eq_ofNat_of_zero_le (show 0 ≤ z by omega)
  rw [e, Int.natAbs_natCast]
  rfl
set_option maxHeartbeats 1600000 in
theorem rsh {w : World} {p q : Nat} {z : Int} {n : Nat} (hp : Blk w p) (hz : Z w q z) (h1 : bl z.natAbs ≤ 268435456) (h2 : n ≤ 268435456) :
    Calls Try.prog 170 #[.pointer (some ⟨p, 0, none⟩), .pointer (some ⟨q, 0, none⟩), .int .u64 n] w (Puts w p (z / 2 ^ n)) := by
  obtain ⟨A, c, k0, k1, hm, hq⟩ := Z.open hz
  by_cases hn : z < 0
  · have b1 := bl_mono (Nat.sub_le z.natAbs 1)
    have b2 := bl_mono (Nat.div_le_self (z.natAbs - 1) (2 ^ n))
    have b3 := bl_add_le ((z.natAbs - 1) / 2 ^ n) 1
    have b4 : bl 1 = 1 := rfl
    have hS := fun (W : World) (hb : Below w.heap.size w W) => (cSub ((hm.below hb).below (below_alloc W _)) (Mg_one (w := W)) (by omega) (by omega)).mono fun e w' h => GivesMg.of (below_then hb (below_alloc W _)) h
    have hR := fun (W : World) (A' : Option Addr) (c' : Nat) (hb : Below w.heap.size w W) (hm' : Mg W A' c' (D (z.natAbs - 1))) => (cRight hm' (n := n) (by omega) (by omega)).mono fun e w' h => GivesMg.of hb h
    have hA := fun (W : World) (A' : Option Addr) (c' : Nat) (hb : Below w.heap.size w W) (hm' : Mg W A' c' (D ((z.natAbs - 1) / 2 ^ n))) => (cAdd (hm'.below (below_alloc W _)) (Mg_one (w := W)) (by omega) (by omega)).mono fun e w' h => GivesMg.of (below_then hb (below_alloc W _)) h
    have hP := fun (w1 : World) (A' : Option Addr) (c' : Nat) h1 h2 => put_of (w1 := w1) (A := A') (c := c') (neg := true) (n := (z.natAbs - 1) / 2 ^ n + 1) hp h1 h2 (by omega)
    simp only [if_true] at hP
    rw [shr_neg hn] at hP
    rw [show decide (z < 0) = true by simpa using hn] at k0
    have l1 : (D 1).length = 1 := by rw [D_one]; rfl
    rw [l1] at hS hA
    have HS := Lib.hid hS
    have HR := Lib.hid hR
    have HA := Lib.hid hA
    have HP := Lib.hid hP
    clear hS hR hA hP b1 b2 b3 b4 h1 h2 hm hp hz hn l1
    go_enter Try.func170, Try.ntmps170
    go_wp2_with fail
    refine (HS.out _ (Below.refl _ _)).mono ?_
    rintro e w1 ⟨A1, c1, rfl, hm1, hb1⟩
    have HR1 := Lib.hid (HR.out w1 A1 c1 hb1 hm1)
    clear hm1 hb1
    go_wp2_with fail
    refine HR1.out.mono ?_
    rintro e w2 ⟨A2, c2, rfl, hm2, hb2⟩
    have HA1 := Lib.hid (HA.out w2 A2 c2 hb2 hm2)
    clear hm2 hb2
    go_wp2_with fail
    refine HA1.out.mono ?_
    rintro e w3 ⟨A3, c3, rfl, hm3, hb3⟩
    have HP1 := Lib.hid (HP.out w3 A3 c3 hb3 hm3)
    clear hm3 hb3
    go_wp2_with fail
    refine HP1.out.mono ?_
    rintro e w4 ⟨rfl, hz2, hg2⟩
    have HE := Lib.hid (show Puts w p (z / 2 ^ n) _ w4 from ⟨rfl, hz2, hg2⟩)
    clear hz2 hg2
    go_wp2
    go_ret
    exact HE.out
  · have b2 := bl_mono (Nat.div_le_self z.natAbs (2 ^ n))
    have hR := fun (W : World) (hb : Below w.heap.size w W) => (cRight (hm.below hb) (n := n) (by omega) (by omega)).mono fun e w' h => GivesMg.of hb h
    have hP := fun (w1 : World) (A' : Option Addr) (c' : Nat) h1 h2 => put_of (w1 := w1) (A := A') (c := c') (neg := false) (n := z.natAbs / 2 ^ n) hp h1 h2 (by omega)
    simp only [Bool.false_eq_true, if_false] at hP
    rw [shr_pos hn] at hP
    rw [show decide (z < 0) = false by simpa using hn] at k0
    have HR := Lib.hid hR
    have HP := Lib.hid hP
    clear hR hP b2 h1 h2 hm hp hz hn
    go_enter Try.func170, Try.ntmps170
    go_wp2_with fail
    refine (HR.out _ (Below.refl _ _)).mono ?_
    rintro e w1 ⟨A1, c1, rfl, hm1, hb1⟩
    have HP1 := Lib.hid (HP.out w1 A1 c1 hb1 hm1)
    clear hm1 hb1
    go_wp2_with fail
    refine HP1.out.mono ?_
    rintro e w4 ⟨rfl, hz2, hg2⟩
    have HE := Lib.hid (show Puts w p (z / 2 ^ n) _ w4 from ⟨rfl, hz2, hg2⟩)
    clear hz2 hg2
    go_wp2
    go_ret
    exact HE.out
end Go.Proofs.Ytdboepiobaehkaa.Mk
end
section
set_option linter.unusedVariables false
set_option linter.unusedSimpArgs false
namespace Go.Proofs.Ytdboepiobaehkaa.Ml
open Go.RowKit Go.Proofs.YtdboepiobaehkaaW.PrintWords Go.Proofs.YtdboepiobaehkaaW.PrintLast Go.Proofs.YtdboepiobaehkaaW.PrintMore Go.Proofs.Ytdboepiobaehkaa.PW Go.Proofs.Ytdboepiobaehkaa.Pc Go.Proofs.Ytdboepiobaehkaa.Ma Go.Proofs.Ytdboepiobaehkaa.Mb Go.Proofs.Ytdboepiobaehkaa.Mc Go.Proofs.Ytdboepiobaehkaa.Md Go.Proofs.Ytdboepiobaehkaa.Me Go.Proofs.Ytdboepiobaehkaa.Mi Go.Proofs.Ytdboepiobaehkaa.Mj Go.Proofs.Ytdboepiobaehkaa.Mk Dg
theorem D_and (a b i : Nat) : (D (a &&& b)).getD i 0 = (((a / 4294967296 ^ i % 4294967296) &&& (b / 4294967296 ^ i % 4294967296) : Nat) : Int) := by
  rw [D_getD]
  congr 1
  rw [show (4294967296 : Nat) = 2 ^ 32 from rfl, ← Nat.pow_mul]
  have h1 : (a &&& b) / 2 ^ (32 * i) = a / 2 ^ (32 * i) &&& b / 2 ^ (32 * i) := by
    rw [← Nat.shiftRight_eq_div_pow, ← Nat.shiftRight_eq_div_pow, ← Nat.shiftRight_eq_div_pow, Nat.shiftRight_and_distrib]
  rw [h1, Nat.and_mod_two_pow]
def andl (a b k : Nat) : List Int := (List.range k).map fun j => bits .and .u32 ((D a).getD j 0) ((D b).getD j 0)
theorem andl_len (a b k : Nat) : (andl a b k).length = k := by unfold andl; simp
theorem andl_succ (a b k : Nat) : andl a b (k + 1) = andl a b k ++ [bits .and .u32 ((D a).getD k 0) ((D b).getD k 0)] := by unfold andl; rw [List.range_succ, List.map_append]; rfl
theorem and_digit (a b j : Nat) : bits .and .u32 ((D a).getD j 0) ((D b).getD j 0) = (((a &&& b) / 4294967296 ^ j % 4294967296 : Nat) : Int) := by
  rw [← D_getD, D_and, D_getD, D_getD]
  exact (bits_nat .u32 32 (by decide) Po.wraps_u32 _ _ (Nat.mod_lt _ (by decide)) (Nat.mod_lt _ (by decide))).1
theorem andl_done (a b m : Nat) (hm : (D a).length ≤ m ∨ (D b).length ≤ m) : Dig 4294967296 (andl a b m) ∧ val 4294967296 (andl a b m) = ((a &&& b : Nat) : Int) := by
  have h2 : ∀ j, j < (andl a b m).length → (andl a b m).getD j 0 = (((a &&& b) / 4294967296 ^ j % 4294967296 : Nat) : Int) := by
    intro j hj
    rw [andl_len] at hj
    rw [← and_digit]
    unfold andl
    simp [List.getD, hj]
  constructor
  · exact dig_of_getD fun j hj => by rw [h2 j hj]; have := Nat.mod_lt ((a &&& b) / 4294967296 ^ j) (show 0 < 4294967296 by decide); omega
  · rw [val_digits (by decide) _ (a &&& b) h2, andl_len]
    congr 1
    apply Nat.mod_eq_of_lt
    have e : (4294967296 : Nat) = 2 ^ 32 := rfl
    rw [e, ← Nat.pow_mul]
    rcases hm with h | h
    · refine Nat.lt_of_le_of_lt Nat.and_le_left (Nat.lt_of_lt_of_le (lt_bl a) (Nat.pow_le_pow_right (by decide) ?_))
      have := D_bl a
      omega
    · refine Nat.lt_of_le_of_lt Nat.and_le_right (Nat.lt_of_lt_of_le (lt_bl b) (Nat.pow_le_pow_right (by decide) ?_))
      have := D_bl b
      omega
set_option maxHeartbeats 1600000 in
set_option maxRecDepth 100000 in
theorem andd {w : World} {p q s : Nat} {x y : Int} (hp : Blk w p) (hx : Z w q x) (hy : Z w s y) (h1 : bl x.natAbs ≤ 536870912) (h2 : bl y.natAbs ≤ 536870912) :
    Calls Try.prog 192 #[.pointer (some ⟨p, 0, none⟩), .pointer (some ⟨q, 0, none⟩), .pointer (some ⟨s, 0, none⟩)] w (Puts w p ((x.natAbs &&& y.natAbs : Nat) : Int)) := by
  obtain ⟨A, c, k0, k1, hm, hq⟩ := Z.open hx
  obtain ⟨B, d, j0, j1, hn, hs⟩ := Z.open hy
  have hl1 := D_len x.natAbs
  have hl2 := D_len y.natAbs
  have hca : ∀ (k : Nat) (wr : World), k < (D x.natAbs).length → Below w.heap.size w wr → ∃ ad, A = some ad ∧ wr.cell? (ad.add k) = some (.int .u32 ((D x.natAbs).getD k 0)) := fun k wr hk hb => by
    obtain ⟨ad, hA, hc⟩ := Kd.at_int hm.1 (k : Int) (by omega) (by omega)
    rw [Int.toNat_natCast, rdN] at hc
    exact ⟨ad, hA, (hb.cell (World.block_lt_of_cell? w _ hc)).trans hc⟩
  have hcb : ∀ (k : Nat) (wr : World), k < (D y.natAbs).length → Below w.heap.size w wr → ∃ ad, B = some ad ∧ wr.cell? (ad.add k) = some (.int .u32 ((D y.natAbs).getD k 0)) := fun k wr hk hb => by
    obtain ⟨ad, hA, hc⟩ := Kd.at_int hn.1 (k : Int) (by omega) (by omega)
    rw [Int.toNat_natCast, rdN] at hc
    exact ⟨ad, hA, (hb.cell (World.block_lt_of_cell? w _ hc)).trans hc⟩
  have hcc : ∀ wr, Below w.heap.size w wr → (wr.cell? ⟨q, 1, none⟩ = some (.slice A (D x.natAbs).length c) ∧ wr.cell? ⟨s, 1, none⟩ = some (.slice B (D y.natAbs).length d)) := fun wr hb =>
    ⟨(hb.cell (p := ⟨q, 1, none⟩) hq).trans k1, (hb.cell (p := ⟨s, 1, none⟩) hs).trans j1⟩
  have hfin : ∀ (m : Nat) (v : Value) (wr : World), ((D x.natAbs).length ≤ m ∨ (D y.natAbs).length ≤ m) → m ≤ 536870912 → Kd.R (Kd.int .u32) 120 wr w.heap.size (fun _ => True) v (andl x.natAbs y.natAbs m) → Below w.heap.size w wr →
      Calls Try.prog 182 #[.pointer (some ⟨p, 0, none⟩), .bool false, v] wr (Puts w p ((x.natAbs &&& y.natAbs : Nat) : Int)) := by
    intro m v wr hmm hm2 hR hb
    obtain ⟨A', c', rfl⟩ := Kd.R_slice hR
    have hr := Kd.R_reads' hR
    obtain ⟨hd, hv⟩ := andl_done _ _ _ hmm
    have := put (neg := false) (hp.below hb) (xs := andl x.natAbs y.natAbs m) ⟨hr.2.2, hr.2.1⟩ hd (by rw [andl_len]; omega)
    refine this.mono fun e w' h => ?_
    rw [hv] at h
    exact Mc.Puts.below hb h
  have HF := Lib.hid hfin
  have HCA := Lib.hid hca
  have HCB := Lib.hid hcb
  have HCC := Lib.hid hcc
  clear hfin hca hcb hcc hp hx hy hm hn
  generalize hla : (D x.natAbs).length = la at *
  generalize hlb : (D y.natAbs).length = lb at *
  clear hla hlb
  obtain ⟨m, hm1, hm2, hm3⟩ : ∃ m : Nat, m ≤ la ∧ m ≤ lb ∧ (la ≤ m ∨ lb ≤ m) := ⟨min la lb, by omega, by omega, by omega⟩
  have HM3 := Lib.hid hm3
  have HB := Aside0.mk (Below.refl w.heap.size w)
  have Ny0 := Aside0.mk (show ([] : List Int) = andl x.natAbs y.natAbs 0 from rfl)
  have hl1' : la ≤ 536870912 := by omega
  have hl2' : lb ≤ 536870912 := by omega
  clear hl1 hl2 h1 h2
  by_cases hlt : la < lb
  · obtain rfl : la = m := by omega
    clear hm1 hm3
    go_enter Try.func192, Try.ntmps192
    go_wp2_with ((with_reducible refine gate_dst (N := 9) rfl ?_); refine Kd.R_lit (Kd.int .u32) _ 120 ?hg (N := 9) ?hd (xs := ([] : List Int)) (inner := []) (ok := fun _ => True) (okp := fun _ => True) ?hr ?hp (fun _ hk => hk) trivial (Below.refl _ _) (Nat.le_refl _) (by simp) ?_; (case hd => rfl); (case hg => rfl); (case hr => first | (go_simp; done) | (go_simp; rfl)); (case hp => exact (Reps.none _ _)); intro v168 w3 ho4 hb hg_ hnew_; clear hg_ hnew_; rw [Ny0.out] at ho4; have n0_ := Aside0.mk (Kd.R_lower ho4 (Nat.le_refl _)); have n1_ := Aside0.mk hb; clear HB; have HO := n0_; have HB := n1_; obtain ⟨cx, cy⟩ := HCC.out w3 hb; clear n0_ n1_; clear hb ho4)
    go_region
    go_wp2_with fail
    go_loopw [7, 21] (fun v i wr => ∃ k : Nat, i = .int .i64 k ∧ k ≤ la ∧ Aside0 (Kd.R (Kd.int .u32) 120 wr w.heap.size (fun _ => True) v (andl x.natAbs y.natAbs k)) ∧ Aside0 (Below w.heap.size w wr)) (fun _ i _ => la - (intOf i).toNat)
    case atStart => exact ⟨0, rfl, by omega, ⟨by (with_reducible repeat (first | apply Kd.R_alloc | apply Kd.R_drewN | apply Kd.R_drew)); exact HO.out⟩, ⟨HB.out.drew⟩⟩
    case round =>
      clear HO HB cx cy
      obtain ⟨k, rfl, hk, HO, HB⟩ := hrel
      obtain ⟨cx, cy⟩ := HCC.out wr HB.out
      by_cases hkm : k < la
      · obtain ⟨ad, hA, ca⟩ := HCA.out k wr (by omega) HB.out
        obtain ⟨bd, hB, cb⟩ := HCB.out k wr (by omega) HB.out
        subst hA
        subst hB
        have HS := Aside0.mk (andl_succ x.natAbs y.natAbs k).symm
        have HLN := Aside0.mk (show ((andl x.natAbs y.natAbs k).length + 1) * 4 ≤ 140737488355328 by rw [andl_len]; omega)
        have hka : (k : Int) < (la : Int) := by omega
        have hkb : (k : Int) < (lb : Int) := by omega
        generalize (D x.natAbs).getD k 0 = u at *
        generalize (D y.natAbs).getD k 0 = v at *
        go_wp2_with fail
        go_region_law (refine Kd.R_append_step (Kd.int .u32) (w0 := w) w.heap.size (by rfl) (.tmp 24) (.tmp 40) 109 120 (.int .u32 0) 4 rfl Try.underlying109 infoU rfl (by decide) (by omega) _ (andl x.natAbs y.natAbs k) (bits .and .u32 u v) [.int .u32 (bits .and .u32 u v)] (fun _ => True) (fun _ => False) rfl rfl rfl (fun _ hk => hk.elim) (fun _ _ => trivial) (Kd.R_drew HO.out) HB.out.drew HB.out.size HLN.out ?_; intro v1 w1 ho hb hg hat; rw [HS.out] at ho; have HO1 := Aside0.mk ho; have HB1 := Aside0.mk hb; clear ho hb hg hat HO HB)
        all_goals go_wp2
        all_goals go_roundw
        all_goals first | exact ⟨k + 1, by go_num, by omega, HO1, HB1⟩ | ((simp [intOf]) <;> omega)
      · obtain rfl : la = k := by omega
        have HC := Lib.hid (HF.out la _ wr HM3.out (by omega) HO.out HB.out)
        clear HO HB
        go_wp2_with (go_at_call 182; refine HC.out.mono ?_; rintro e w2 ⟨rfl, hz2, hg2⟩; have HE := Lib.hid (show Puts w p ((x.natAbs &&& y.natAbs : Nat) : Int) _ w2 from ⟨rfl, hz2, hg2⟩); clear hz2 hg2)
        go_ret
        exact HE.out
  · by_cases hlt2 : lb < la
    · obtain rfl : lb = m := by omega
      clear hm1 hm3
      go_enter Try.func192, Try.ntmps192
      go_wp2_with ((with_reducible refine gate_dst (N := 9) rfl ?_); refine Kd.R_lit (Kd.int .u32) _ 120 ?hg (N := 9) ?hd (xs := ([] : List Int)) (inner := []) (ok := fun _ => True) (okp := fun _ => True) ?hr ?hp (fun _ hk => hk) trivial (Below.refl _ _) (Nat.le_refl _) (by simp) ?_; (case hd => rfl); (case hg => rfl); (case hr => first | (go_simp; done) | (go_simp; rfl)); (case hp => exact (Reps.none _ _)); intro v168 w3 ho4 hb hg_ hnew_; clear hg_ hnew_; rw [Ny0.out] at ho4; have n0_ := Aside0.mk (Kd.R_lower ho4 (Nat.le_refl _)); have n1_ := Aside0.mk hb; clear HB; have HO := n0_; have HB := n1_; obtain ⟨cx, cy⟩ := HCC.out w3 hb; clear n0_ n1_; clear hb ho4)
      go_region
      go_wp2_with fail
      go_loopw [7, 21] (fun v i wr => ∃ k : Nat, i = .int .i64 k ∧ k ≤ lb ∧ Aside0 (Kd.R (Kd.int .u32) 120 wr w.heap.size (fun _ => True) v (andl x.natAbs y.natAbs k)) ∧ Aside0 (Below w.heap.size w wr)) (fun _ i _ => lb - (intOf i).toNat)
      case atStart => exact ⟨0, rfl, by omega, ⟨by (with_reducible repeat (first | apply Kd.R_alloc | apply Kd.R_drewN | apply Kd.R_drew)); exact HO.out⟩, ⟨HB.out.drew⟩⟩
      case round =>
        clear HO HB cx cy
        obtain ⟨k, rfl, hk, HO, HB⟩ := hrel
        obtain ⟨cx, cy⟩ := HCC.out wr HB.out
        by_cases hkm : k < lb
        · obtain ⟨ad, hA, ca⟩ := HCA.out k wr (by omega) HB.out
          obtain ⟨bd, hB, cb⟩ := HCB.out k wr (by omega) HB.out
          subst hA
          subst hB
          have HS := Aside0.mk (andl_succ x.natAbs y.natAbs k).symm
          have HLN := Aside0.mk (show ((andl x.natAbs y.natAbs k).length + 1) * 4 ≤ 140737488355328 by rw [andl_len]; omega)
          have hka : (k : Int) < (la : Int) := by omega
          have hkb : (k : Int) < (lb : Int) := by omega
          generalize (D x.natAbs).getD k 0 = u at *
          generalize (D y.natAbs).getD k 0 = v at *
          go_wp2_with fail
          go_region_law (refine Kd.R_append_step (Kd.int .u32) (w0 := w) w.heap.size (by rfl) (.tmp 24) (.tmp 40) 109 120 (.int .u32 0) 4 rfl Try.underlying109 infoU rfl (by decide) (by omega) _ (andl x.natAbs y.natAbs k) (bits .and .u32 u v) [.int .u32 (bits .and .u32 u v)] (fun _ => True) (fun _ => False) rfl rfl rfl (fun _ hk => hk.elim) (fun _ _ => trivial) (Kd.R_drew HO.out) HB.out.drew HB.out.size HLN.out ?_; intro v1 w1 ho hb hg hat; rw [HS.out] at ho; have HO1 := Aside0.mk ho; have HB1 := Aside0.mk hb; clear ho hb hg hat HO HB)
          all_goals go_wp2
          all_goals go_roundw
          all_goals first | exact ⟨k + 1, by go_num, by omega, HO1, HB1⟩ | ((simp [intOf]) <;> omega)
        · obtain rfl : lb = k := by omega
          have HC := Lib.hid (HF.out lb _ wr HM3.out (by omega) HO.out HB.out)
          clear HO HB
          go_wp2_with (go_at_call 182; refine HC.out.mono ?_; rintro e w2 ⟨rfl, hz2, hg2⟩; have HE := Lib.hid (show Puts w p ((x.natAbs &&& y.natAbs : Nat) : Int) _ w2 from ⟨rfl, hz2, hg2⟩); clear hz2 hg2)
          go_ret
          exact HE.out

    · obtain rfl : la = lb := by omega
      obtain rfl : la = m := by omega
      clear hm1 hm3
      go_enter Try.func192, Try.ntmps192
      go_wp2_with ((with_reducible refine gate_dst (N := 9) rfl ?_); refine Kd.R_lit (Kd.int .u32) _ 120 ?hg (N := 9) ?hd (xs := ([] : List Int)) (inner := []) (ok := fun _ => True) (okp := fun _ => True) ?hr ?hp (fun _ hk => hk) trivial (Below.refl _ _) (Nat.le_refl _) (by simp) ?_; (case hd => rfl); (case hg => rfl); (case hr => first | (go_simp; done) | (go_simp; rfl)); (case hp => exact (Reps.none _ _)); intro v168 w3 ho4 hb hg_ hnew_; clear hg_ hnew_; rw [Ny0.out] at ho4; have n0_ := Aside0.mk (Kd.R_lower ho4 (Nat.le_refl _)); have n1_ := Aside0.mk hb; clear HB; have HO := n0_; have HB := n1_; obtain ⟨cx, cy⟩ := HCC.out w3 hb; clear n0_ n1_; clear hb ho4)
      go_region
      go_wp2_with fail
      go_loopw [7, 21] (fun v i wr => ∃ k : Nat, i = .int .i64 k ∧ k ≤ la ∧ Aside0 (Kd.R (Kd.int .u32) 120 wr w.heap.size (fun _ => True) v (andl x.natAbs y.natAbs k)) ∧ Aside0 (Below w.heap.size w wr)) (fun _ i _ => la - (intOf i).toNat)
      case atStart => exact ⟨0, rfl, by omega, ⟨by (with_reducible repeat (first | apply Kd.R_alloc | apply Kd.R_drewN | apply Kd.R_drew)); exact HO.out⟩, ⟨HB.out.drew⟩⟩
      case round =>
        clear HO HB cx cy
        obtain ⟨k, rfl, hk, HO, HB⟩ := hrel
        obtain ⟨cx, cy⟩ := HCC.out wr HB.out
        by_cases hkm : k < la
        · obtain ⟨ad, hA, ca⟩ := HCA.out k wr (by omega) HB.out
          obtain ⟨bd, hB, cb⟩ := HCB.out k wr (by omega) HB.out
          subst hA
          subst hB
          have HS := Aside0.mk (andl_succ x.natAbs y.natAbs k).symm
          have HLN := Aside0.mk (show ((andl x.natAbs y.natAbs k).length + 1) * 4 ≤ 140737488355328 by rw [andl_len]; omega)
          have hka : (k : Int) < (la : Int) := by omega
          have hkb : (k : Int) < (la : Int) := by omega
          generalize (D x.natAbs).getD k 0 = u at *
          generalize (D y.natAbs).getD k 0 = v at *
          go_wp2_with fail
          go_region_law (refine Kd.R_append_step (Kd.int .u32) (w0 := w) w.heap.size (by rfl) (.tmp 24) (.tmp 40) 109 120 (.int .u32 0) 4 rfl Try.underlying109 infoU rfl (by decide) (by omega) _ (andl x.natAbs y.natAbs k) (bits .and .u32 u v) [.int .u32 (bits .and .u32 u v)] (fun _ => True) (fun _ => False) rfl rfl rfl (fun _ hk => hk.elim) (fun _ _ => trivial) (Kd.R_drew HO.out) HB.out.drew HB.out.size HLN.out ?_; intro v1 w1 ho hb hg hat; rw [HS.out] at ho; have HO1 := Aside0.mk ho; have HB1 := Aside0.mk hb; clear ho hb hg hat HO HB)
          all_goals go_wp2
          all_goals go_roundw
          all_goals first | exact ⟨k + 1, by go_num, by omega, HO1, HB1⟩ | ((simp [intOf]) <;> omega)
        · obtain rfl : la = k := by omega
          have HC := Lib.hid (HF.out la _ wr HM3.out (by omega) HO.out HB.out)
          clear HO HB
          go_wp2_with (go_at_call 182; refine HC.out.mono ?_; rintro e w2 ⟨rfl, hz2, hg2⟩; have HE := Lib.hid (show Puts w p ((x.natAbs &&& y.natAbs : Nat) : Int) _ w2 from ⟨rfl, hz2, hg2⟩); clear hz2 hg2)
          go_ret
          exact HE.out
end Go.Proofs.Ytdboepiobaehkaa.Ml
end
section
set_option linter.unusedVariables false
set_option linter.unusedSimpArgs false
namespace Go.Proofs.Ytdboepiobaehkaa.Mn
open Go.RowKit Go.Proofs.YtdboepiobaehkaaW.PrintWords Go.Proofs.YtdboepiobaehkaaW.PrintLast Go.Proofs.YtdboepiobaehkaaW.PrintMore Go.Proofs.Ytdboepiobaehkaa.PW Go.Proofs.Ytdboepiobaehkaa.Pc Go.Proofs.Ytdboepiobaehkaa.Ma Go.Proofs.Ytdboepiobaehkaa.Mb Go.Proofs.Ytdboepiobaehkaa.Mc Go.Proofs.Ytdboepiobaehkaa.Md Go.Proofs.Ytdboepiobaehkaa.Me Go.Proofs.Ytdboepiobaehkaa.Mi Go.Proofs.Ytdboepiobaehkaa.Mj Go.Proofs.Ytdboepiobaehkaa.Mk Go.Proofs.Ytdboepiobaehkaa.Ml Dg
open Pm (sgn)
theorem infoI : (Try.prog.info? 2).map (fun i => (i.zero, i.size, i.bytes)) = some (some (.int .i64 0), 1, 8) := by kernel_rfl
theorem sizeW : (Try.prog.info? 29).map (·.size) = some 2 := by kernel_rfl
def GivesW (w : World) (s : Int) (l : List Int) (b : Bool) (e : Ending) (w' : World) : Prop :=
  ∃ u, e = .returned (.tuple #[.agg #[.int .i64 s, u], .bool b]) ∧ Kd.R (Kd.int .i64) 2 w' w.heap.size (fun _ => True) u l ∧ Below w.heap.size w w'
set_option maxHeartbeats 1600000 in
theorem fromBig_no {w : World} {q : Nat} {z : Int} (hz : Z w q z) (h1 : bl z.natAbs ≤ 268435456) (h2 : ¬ bl z.natAbs ≤ 2400) :
    Calls Try.prog 139 #[.pointer (some ⟨q, 0, none⟩)] w (GivesW w 0 [] false) := by
  have hB := Me.bitLen (hz.below (below_alloc w (.cells #[.int .i64 0, .slice none 0 0] 29))) (by omega)
  have HB := Lib.hid hB
  have hgt : (2400 : Int) < ((bl z.natAbs : Nat) : Int) := by omega
  clear hB hz h1 h2
  generalize bl z.natAbs = b at *
  go_enter Try.func139, Try.ntmps139
  go_wp2_with fail
  refine HB.out.mono ?_
  rintro e w1 ⟨rfl, n, rfl⟩
  go_wp2
  have hbox : ((w.alloc (.cells #[.int .i64 0, .slice none 0 0] 29)).drewN n).heap[w.heap.size]? = some (.cells #[.int .i64 0, .slice none 0 0] 29 (0, 0)) := ((Me.below_drawn n).block w.heap.size (by simp)).trans (heap_alloc_new w _)
  have hb : Below w.heap.size w ((w.alloc (.cells #[.int .i64 0, .slice none 0 0] 29)).drewN n) := below_then (below_alloc w _) (Me.below_drawn n)
  exact bodyPost_ret (results_ct rfl _ _ w.heap.size 29 #[.int .i64 0, .slice none 0 0] (0, 0) _ rfl (blk_set (blk_set hbox 0 _) 1 _) Try.underlying29 rfl sizeW) rfl ⟨_, rfl, Kd.R_nil _ _ _ _ _, (hb.setCell (Nat.le_refl _) _).setCell (Nat.le_refl _) _⟩
def ZF (w : World) (p : Nat) (z : Int) (v : Value) : Prop :=
  ∃ A c, w.heap[p]? = some (.cells #[.bool (decide (z < 0)), .slice A (D z.natAbs).length c] 111 (0, 0)) ∧ Mg w A c (D z.natAbs) ∧ ∀ ad, A = some ad → 0 < (D z.natAbs).length → some ad.block ≠ v.ownBlock
section
variable {w w1 : World} {p : Nat} {n : Int} {v v1 : Value}
theorem ZF.zz (h : ZF w p n v) : Z w p n := by
  obtain ⟨A, c, hb, hm, _⟩ := h
  exact ⟨A, c, hb, hm⟩
theorem ZF.of (h : Z w p n) : ZF w p n (.slice none 0 0) := by
  obtain ⟨A, c, hb, hm⟩ := h
  exact ⟨A, c, hb, hm, fun ad _ _ e => by simp [Value.ownBlock] at e⟩
theorem ZF.below (h : ZF w p n v) (hb : Below w.heap.size w w1) : ZF w1 p n v := by
  obtain ⟨A, c, h1, hm, hv⟩ := h
  exact ⟨A, c, (hb.block p (Array.getElem?_eq_some_iff.1 h1).1).trans h1, hm.below hb, hv⟩
theorem ZF.grown {q : Nat} (h : ZF w p n v) (hg : w.grownBy w1 (some q)) (hq : Blk w q) (hne : p ≠ q) : ZF w1 p n v := by
  obtain ⟨A, c, hb, hm, hv⟩ := h
  exact ⟨A, c, (hg.block p (Array.getElem?_eq_some_iff.1 hb).1 (by simpa using hne)).trans hb, hm.grown hg hq, hv⟩
theorem add_block (a : Addr) (k : Nat) : (a.add k).block = a.block := by
  unfold Addr.add
  split <;> rfl
theorem Mg.kept_at {A : Option Addr} {c : Nat} {xs : List Int} (h : Mg w A c xs) (hk : ∀ ad, A = some ad → 0 < xs.length → w1.heap[ad.block]? = w.heap[ad.block]?) : Mg w1 A c xs := by
  refine ⟨?_, h.2⟩
  obtain ⟨h1, h2, h3⟩ := h.1
  refine ⟨h1, h2, fun hn => ?_⟩
  obtain ⟨ad, hA, hc⟩ := h3 hn
  refine ⟨ad, hA, fun j p hp => ?_⟩
  obtain ⟨cs, hs, hR, hcell⟩ := hc j p hp
  refine ⟨cs, hs, hR, fun i u hu => ?_⟩
  rw [← hcell i u hu]
  exact World.cell?_of_block (w := w) (w' := w1) (a := ad.add (j * (Kd.int IntKind.u32).sz + i)) (by rw [add_block]; exact hk ad hA hn)
theorem Mg.lt {A : Option Addr} {c : Nat} {xs : List Int} (h : Mg w A c xs) (ad : Addr) (hA : A = some ad) (hn : 0 < xs.length) : ad.block < w.heap.size := by
  subst hA
  exact Kd.C_lt h.1 hn (by decide)
theorem ZF.after (h : ZF w p n v) (hpv : some p ≠ v.ownBlock) (hg : w.grownBy w1 v.ownBlock) (hat : v1.ownBlock = v.ownBlock ∨ ∃ b, v1.ownBlock = some b ∧ w.heap.size ≤ b) : ZF w1 p n v1 := by
  obtain ⟨A, c, hb, hm, hv⟩ := h
  refine ⟨A, c, (hg.block p (Array.getElem?_eq_some_iff.1 hb).1 hpv).trans hb, Mg.kept_at hm fun ad hA hn => hg.block _ (Mn.Mg.lt hm ad hA hn) (hv ad hA hn), fun ad hA hn => ?_⟩
  rcases hat with e | ⟨b, e, hle⟩
  · rw [e]; exact hv ad hA hn
  · rw [e]
    intro e2
    injection e2 with e2
    have := Mn.Mg.lt hm ad hA hn
    omega
theorem ZF.store {gw : Nat} {cs : Array Value} (h : ZF w p n v) (hw : w.heap[gw]? = some (.cells cs 29 (0, 0))) (hc : cs.size = 2) (h0 : ∀ x, cs[0]? ≠ some (.int .u32 x)) (h1 : ∀ x, cs[1]? ≠ some (.int .u32 x)) (i : Nat) (u : Value) : ZF (w.setCell ⟨gw, i, none⟩ u) p n v := by
  obtain ⟨A, c, hb, hm, hv⟩ := h
  have hne : p ≠ gw := by
    rintro rfl
    rw [hb] at hw
    injection hw with hw
    injection hw with _ hw
    exact absurd hw (by decide)
  refine ⟨A, c, (Below.heap_setCell _ _ _ _ hne).trans hb, Mg.kept_at hm fun ad hA hn => Below.heap_setCell _ _ _ _ ?_, hv⟩
  intro e
  have e : ad.block = gw := e
  obtain ⟨ad', hA', hc'⟩ := hm.1.2.2 hn
  rw [hA] at hA'
  injection hA' with hA'
  subst hA'
  obtain ⟨cs', hs, hR, hcell⟩ := hc' 0 _ (List.getElem?_eq_getElem hn)
  have hR' : cs' = [.int .u32 (D n.natAbs)[0]] := hR
  subst hR'
  have h4 := hcell 0 _ rfl
  rw [← e] at hw
  simp only [World.cell?, add_block, hw] at h4
  split at h4
  · cases h4
  · generalize (ad.add (0 * (Kd.int IntKind.u32).sz + 0)).off = o at h4
    match o, h4 with
    | 0, h4 => exact h0 _ h4
    | 1, h4 => exact h1 _ h4
    | n + 2, h4 =>
      rw [Array.getElem?_eq_none (by omega)] at h4
      cases h4
end
def GivesMgF (N : Nat) (w : World) (n : Nat) (e : Ending) (w' : World) : Prop :=
  ∃ A c, e = .returned (.slice A (D n).length c) ∧ Mg w' A c (D n) ∧ (∀ ad, A = some ad → 0 < (D n).length → N ≤ ad.block) ∧ Below w.heap.size w w'
def PutsF (N : Nat) (w : World) (p : Nat) (z : Int) (e : Ending) (w' : World) : Prop :=
  Puts w p z e w' ∧ ∀ A n c, w'.cell? ⟨p, 1, none⟩ = some (.slice A n c) → ∀ ad, A = some ad → 0 < n → N ≤ ad.block
theorem fresh_of {w w' : World} {N : Nat} {e : Ending} {v : Value} {n : Nat} {b : Nat} {t : Nat} (he : e = .returned v) (h : Kd.V (Kd.int .u32) t w' b (fun k => N ≤ k) v (D n)) (hb : Below w.heap.size w w') : GivesMgF N w n e w' := by
  obtain ⟨A, c, rfl, hm⟩ := Mg.of_V h
  exact ⟨A, c, he, hm, fun ad hA hn => Kd.F_in (Kd.V_F h) hA hn (by decide), hb⟩
theorem V_of_fresh {w : World} {N : Nat} {A : Option Addr} {c : Nat} {xs : List Int} (h : Mg w A c xs) (hA : ∀ ad, A = some ad → 0 < xs.length → N ≤ ad.block) : Kd.V (Kd.int .u32) 120 w w.heap.size (fun k => N ≤ k) (.slice A xs.length c) xs := by
  refine Kd.V_mk h.2 ?_
  intro W' hW
  exact (Mn.Mg.kept_at (w1 := W') h fun ad hA' hn => hW _ (hA ad hA' hn) (Mn.Mg.lt h ad hA' hn)).1
theorem cRightF {w : World} {A : Option Addr} {c a n : Nat} (ha : Mg w A c (D a)) (h1 : bl a ≤ 536870912) (h2 : n ≤ 536870912) :
    Calls Try.prog 210 #[.slice A (D a).length c, .int .u64 n] w (GivesMgF w.heap.size w (a / 2 ^ n)) := by
  obtain ⟨k, hk⟩ := (Po.right a n h1 h2).rounds
  refine (impl_magRight.calls k A c _ _ _ w ha.1 ha.2 hk).mono ?_
  rintro e w' ⟨v, he, hv, hbl⟩
  exact fresh_of he hv hbl
theorem cTrimF {w : World} {N : Nat} {A : Option Addr} {c n : Nat} (h : Mg w A c (D n)) (hA : ∀ ad, A = some ad → 0 < (D n).length → N ≤ ad.block) (hN : N ≤ w.heap.size) (hl : bl n ≤ 1099511627776) :
    Calls Try.prog 215 #[.slice A (D n).length c] w (GivesMgF N w n) := by
  have hl2 := D_len n
  obtain ⟨k, hk⟩ := (Pm.trim _ (D n) rfl (D_dig n) (by omega)).rounds
  rw [D_val, Int.toNat_natCast] at hk
  refine (impl_magTrim.calls k (fun k => N ≤ k) A c (D n) _ w (V_of_fresh h hA) hk).mono ?_
  rintro e w' ⟨v, he, hv, hb⟩
  exact fresh_of he (Kd.V_mono hv (fun k hk => hk.elim id (fun h => Nat.le_trans hN h))) hb
set_option maxHeartbeats 400000 in
theorem putF {w W : World} {p n N : Nat} {A : Option Addr} {c : Nat} (hp : Blk w p) (hb : Below w.heap.size w W) (hN : N ≤ w.heap.size) (hm : Mg W A c (D n)) (hA : ∀ ad, A = some ad → 0 < (D n).length → N ≤ ad.block) (hl : bl n ≤ 1099511627776) :
    Calls Try.prog 182 #[.pointer (some ⟨p, 0, none⟩), .bool false, .slice A (D n).length c] W (PutsF N w p (n : Int)) := by
  have hT := cTrimF hm hA (Nat.le_trans hN hb.size) hl
  obtain ⟨b, B, m, d, hbx⟩ := hp
  have hlt : p < w.heap.size := (Array.getElem?_eq_some_iff.1 hbx).1
  have HB := Lib.hid hbx
  have HT := Lib.hid hT
  have HBW := Lib.hid hb
  clear hT hbx hm hA hl hb
  have hE : ∀ w1 : World, Below w.heap.size w w1 → (w1.cell? ⟨p, 0, none⟩ = some (.bool b) ∧ w1.cell? ⟨p, 1, none⟩ = some (.slice B m d) ∧ w1.frozen? ⟨p, 0, none⟩ = false ∧ w1.frozen? ⟨p, 1, none⟩ = false) := fun w1 h => by
    have h1 := (h.block p hlt).trans HB.out
    exact ⟨blk_cell h1 0, blk_cell h1 1, blk_frozen h1 0, blk_frozen h1 1⟩
  have HE := Lib.hid hE
  clear hE
  have hgoal : ∀ (w1 : World) (A' : Option Addr) (c' : Nat), Below w.heap.size w w1 → Mg w1 A' c' (D n) → (∀ ad, A' = some ad → 0 < (D n).length → N ≤ ad.block) → PutsF N w p (n : Int) (.returned (.pointer (some ⟨p, 0, none⟩))) ((w1.setCell ⟨p, 1, none⟩ (.slice A' (D n).length c')).setCell ⟨p, 0, none⟩ (.bool false)) := by
    intro w1 A' c' hbl hmg hA'
    have h1 := puts_of (z := (n : Int)) (A := A') (c := c') (neg := false) HB.out hbl (by simpa using hmg) (by simp)
    refine ⟨h1, ?_⟩
    have h2 := blk_set (blk_set ((hbl.block p hlt).trans HB.out) 1 (.slice A' (D n).length c')) 0 (.bool false)
    have h3 := blk_cell h2 1
    intro A2 n2 c2 he ad hA2 hn
    rw [h3] at he
    injection he with he
    simp at he
    obtain ⟨rfl, rfl, rfl⟩ := he
    exact hA' ad hA2 hn
  have HG := Lib.hid hgoal
  clear hgoal
  go_enter Try.func182, Try.ntmps182
  go_wp2_with fail
  refine HT.out.mono ?_
  rintro e w1 ⟨A', c', rfl, hmg, hA', hbl⟩
  obtain ⟨k0, k1, f0, f1⟩ := HE.out w1 (below_then HBW.out hbl)
  have h2 := Lib.hid (HG.out w1 A' c' (below_then HBW.out hbl) hmg hA')
  clear hmg hbl hA' HB HBW
  go_wp2
  go_ret
  exact h2.out
set_option maxHeartbeats 800000 in
theorem rshF {w : World} {p m n : Nat} (hz : Z w p (m : Int)) (h1 : bl m ≤ 268435456) (h2 : n ≤ 268435456) :
    Calls Try.prog 170 #[.pointer (some ⟨p, 0, none⟩), .pointer (some ⟨p, 0, none⟩), .int .u64 n] w (PutsF w.heap.size w p ((m / 2 ^ n : Nat) : Int)) := by
  have hp := hz.blk
  obtain ⟨A, c, k0, k1, hm, hq⟩ := Z.open hz
  rw [Int.natAbs_natCast] at k1 hm
  rw [show decide ((m : Int) < 0) = false by simp] at k0
  have b2 := bl_mono (Nat.div_le_self m (2 ^ n))
  have hR := cRightF hm (n := n) (by omega) (by omega)
  have hP := fun (w1 : World) (A' : Option Addr) (c' : Nat) h1 h2 h3 => putF (W := w1) (A := A') (c := c') (n := m / 2 ^ n) hp h1 (Nat.le_refl _) h2 h3 (by omega)
  have HR := Lib.hid hR
  have HP := Lib.hid hP
  clear hR hP b2 h1 h2 hm hp hz
  go_enter Try.func170, Try.ntmps170
  go_wp2_with fail
  refine HR.out.mono ?_
  rintro e w1 ⟨A1, c1, rfl, hm1, hA1, hb1⟩
  have HP1 := Lib.hid (HP.out w1 A1 c1 hb1 hm1 hA1)
  clear hm1 hb1 hA1
  go_wp2_with fail
  refine HP1.out.mono ?_
  rintro e w4 hz2
  have HE := Lib.hid hz2
  obtain ⟨⟨rfl, hz3, hg3⟩, h4⟩ := hz2
  clear hz3 hg3 h4
  go_wp2
  go_ret
  exact HE.out
def St (w wr : World) (gw gr gm : Nat) (s : Int) (m k : Nat) (v : Value) (pre : List Int) : Prop :=
  wr.heap[gw]? = some (.cells #[.int .i64 s, v] 29 (0, 0)) ∧ Kd.R (Kd.int .i64) 2 wr w.heap.size (fun _ => True) v pre ∧ ZF wr gr (k : Int) v ∧ ZF wr gm 16777215 v ∧ Below w.heap.size w wr ∧ pre ++ L k = L m
section
variable {w wr w1 : World} {gw gr gm m k : Nat} {s : Int} {v v1 : Value} {pre : List Int}
theorem St.cell (h : St w wr gw gr gm s m k v pre) : wr.cell? ⟨gw, 1, none⟩ = some v := blk_cell h.1 1
theorem St.lt (h : St w wr gw gr gm s m k v pre) : gw < wr.heap.size := by
  have := h.1
  rw [Array.getElem?_eq_some_iff] at this
  exact this.1
theorem St.below (h : St w wr gw gr gm s m k v pre) (hb : Below wr.heap.size wr w1) : St w w1 gw gr gm s m k v pre :=
  ⟨(hb.block gw h.lt).trans h.1, Kd.R_below h.2.1 hb, h.2.2.1.below hb, h.2.2.2.1.below hb, below_then h.2.2.2.2.1 hb, h.2.2.2.2.2⟩
theorem ne_types {g p : Nat} {cs : Array Value} {t : TypeId} (h : wr.heap[g]? = some (.cells cs t (0, 0))) (hp : Blk wr p) (ht : t ≠ 111) : g ≠ p := by
  rintro rfl
  obtain ⟨b, A, n, c, hc⟩ := hp
  rw [h] at hc
  injection hc with hc
  injection hc with _ hc
  exact ht hc
theorem St.other {p : Nat} (h : St w wr gw gr gm s m k v pre) (hp : Blk wr p) (h1 : gr ≠ p) (h2 : gm ≠ p) (hN : w.heap.size ≤ p) (hg : wr.grownBy w1 (some p)) : St w w1 gw gr gm s m k v pre := by
  refine ⟨(hg.block gw h.lt (by have := ne_types h.1 hp (by decide); simpa using this)).trans h.1, ?_, h.2.2.1.grown hg hp h1, h.2.2.2.1.grown hg hp h2, below_grown h.2.2.2.2.1 hg hN, h.2.2.2.2.2⟩
  obtain ⟨b, A, n, c, hc⟩ := hp
  exact Kd.R_mono (Kd.R_grown (Kd.R_types h.2.1 hc (by decide)) hg (fun k hk => by have := hk.2; simpa using this)) (fun _ hk => hk.1)
theorem St.rest {k' : Nat} {e : Ending} (h : St w wr gw gr gm s m k v pre) (hp : PutsF wr.heap.size wr gr (k' : Int) e w1) (hne : gm ≠ gr) (hgr : w.heap.size ≤ gr) (he : pre ++ L k' = L m) : St w w1 gw gr gm s m k' v pre := by
  obtain ⟨⟨_, hz, hg⟩, hf⟩ := hp
  have hb := h.2.2.1.zz.blk
  refine ⟨(hg.block gw h.lt (by have := ne_types h.1 hb (by decide); simpa using this)).trans h.1, ?_, ?_, h.2.2.2.1.grown hg hb hne, below_grown h.2.2.2.2.1 hg hgr, he⟩
  · obtain ⟨b, A, n, c, hc⟩ := hb
    exact Kd.R_mono (Kd.R_grown (Kd.R_types h.2.1 hc (by decide)) hg (fun k hk => by have := hk.2; simpa using this)) (fun _ hk => hk.1)
  · obtain ⟨A, c, hzb, hm⟩ := hz
    refine ⟨A, c, hzb, hm, fun ad hA hn ho => ?_⟩
    have h1 := hf _ _ _ (blk_cell hzb 1) ad hA hn
    have h2 := Kd.R_lt h.2.1 _ ho.symm
    omega
theorem St.put {wr1 : World} {p : Int} {k' : Nat} (h : St w wr gw gr gm s m k v pre) (ho : Kd.R (Kd.int .i64) 2 wr1 w.heap.size (fun _ => True) v1 (pre ++ [p])) (hg : wr.grownBy wr1 v.ownBlock) (hat : v1.ownBlock = v.ownBlock ∨ ∃ b, v1.ownBlock = some b ∧ wr.heap.size ≤ b) (hb : Below w.heap.size w wr1) (hgw : w.heap.size ≤ gw) :
    wr1.frozen? ⟨gw, 1, none⟩ = false ∧ (wr1.setCell ⟨gw, 1, none⟩ v1).heap[gw]? = some (.cells #[.int .i64 s, v1] 29 (0, 0)) ∧ Kd.R (Kd.int .i64) 2 (wr1.setCell ⟨gw, 1, none⟩ v1) w.heap.size (fun _ => True) v1 (pre ++ [p]) ∧ ZF (wr1.setCell ⟨gw, 1, none⟩ v1) gr (k : Int) v1 ∧ ZF (wr1.setCell ⟨gw, 1, none⟩ v1) gm 16777215 v1 ∧ Below w.heap.size w (wr1.setCell ⟨gw, 1, none⟩ v1) := by
  have hgw1 : wr1.heap[gw]? = some (.cells #[.int .i64 s, v] 29 (0, 0)) := (hg.block gw h.lt (Kd.R_ne h.2.1 h.1 (by decide))).trans h.1
  obtain ⟨A, c, hv⟩ := Kd.R_slice h.2.1
  refine ⟨blk_frozen hgw1 1, blk_set hgw1 1 v1, Kd.R_set ho hgw1 (by decide) 1 v1, ?_, ?_, hb.setCell hgw _⟩
  · obtain ⟨b, B, n, d, hc⟩ := h.2.2.1.zz.blk
    exact (h.2.2.1.after (Kd.R_ne h.2.1 hc (by decide)) hg hat).store hgw1 rfl (by simp) (by subst hv; simp) 1 v1
  · obtain ⟨b, B, n, d, hc⟩ := h.2.2.2.1.zz.blk
    exact (h.2.2.2.1.after (Kd.R_ne h.2.1 hc (by decide)) hg hat).store hgw1 rfl (by simp) (by subst hv; simp) 1 v1
def Sr (w wr : World) (gw gr gm : Nat) (s : Int) (m k : Nat) (v : Value) (pre : List Int) : Prop :=
  St w wr gw gr gm s m k v pre ∧ wr.heap[w.heap.size]? = some (.cells #[.int .i64 0, .slice none 0 0] 29 (0, 0))
theorem Sr.lt (h : Sr w wr gw gr gm s m k v pre) : w.heap.size < wr.heap.size := (Array.getElem?_eq_some_iff.1 h.2).1
theorem Sr.below (h : Sr w wr gw gr gm s m k v pre) (hb : Below wr.heap.size wr w1) : Sr w w1 gw gr gm s m k v pre :=
  ⟨h.1.below hb, (hb.block _ h.lt).trans h.2⟩
theorem Sr.other {p : Nat} (h : Sr w wr gw gr gm s m k v pre) (hp : Blk wr p) (h1 : gr ≠ p) (h2 : gm ≠ p) (hN : w.heap.size < p) (hg : wr.grownBy w1 (some p)) : Sr w w1 gw gr gm s m k v pre :=
  ⟨h.1.other hp h1 h2 (by omega) hg, (hg.block _ h.lt (by simp; omega)).trans h.2⟩
theorem Sr.rest {k' : Nat} {e : Ending} (h : Sr w wr gw gr gm s m k v pre) (hp : PutsF wr.heap.size wr gr (k' : Int) e w1) (hne : gm ≠ gr) (hgr : w.heap.size < gr) (he : pre ++ L k' = L m) : Sr w w1 gw gr gm s m k' v pre :=
  ⟨h.1.rest hp hne (by omega) he, (hp.1.2.2.block _ h.lt (by simp; omega)).trans h.2⟩
def Sm (w wr : World) (gw gr gm : Nat) (s : Int) (k : Nat) (v : Value) (pre : List Int) : Prop :=
  wr.heap[gw]? = some (.cells #[.int .i64 s, v] 29 (0, 0)) ∧ Kd.R (Kd.int .i64) 2 wr w.heap.size (fun _ => True) v pre ∧ ZF wr gr (k : Int) v ∧ ZF wr gm 16777215 v ∧ Below w.heap.size w wr ∧ wr.heap[w.heap.size]? = some (.cells #[.int .i64 0, .slice none 0 0] 29 (0, 0))
theorem Sr.put {wr1 : World} {p : Int} (h : Sr w wr gw gr gm s m k v pre) (ho : Kd.R (Kd.int .i64) 2 wr1 w.heap.size (fun _ => True) v1 (pre ++ [p])) (hg : wr.grownBy wr1 v.ownBlock) (hat : v1.ownBlock = v.ownBlock ∨ ∃ b, v1.ownBlock = some b ∧ wr.heap.size ≤ b) (hb : Below w.heap.size w wr1) (hgw : w.heap.size < gw) :
    wr1.frozen? ⟨gw, 1, none⟩ = false ∧ (∃ u, wr1.cell? ⟨gw, 1, none⟩ = some u) ∧ Sm w (wr1.setCell ⟨gw, 1, none⟩ v1) gw gr gm s k v1 (pre ++ [p]) := by
  obtain ⟨h1, h2, h3, h4, h5, h6⟩ := h.1.put (k' := 0) ho hg hat hb (by omega)
  refine ⟨h1, ?_, h2, h3, h4, h5, h6, ?_⟩
  · have hgw1 : wr1.heap[gw]? = some (.cells #[.int .i64 s, v] 29 (0, 0)) := (hg.block gw h.1.lt (Kd.R_ne h.1.2.1 h.1.1 (by decide))).trans h.1.1
    exact ⟨_, blk_cell hgw1 1⟩
  · refine (Below.heap_setCell _ _ _ _ (by show w.heap.size ≠ gw; omega)).trans ?_
    exact (hg.block _ h.lt (Kd.R_ne h.1.2.1 h.2 (by decide))).trans h.2
theorem Sm.rest {k' : Nat} {e : Ending} (h : Sm w wr gw gr gm s k v pre) (hp : PutsF wr.heap.size wr gr (k' : Int) e w1) (hne : gm ≠ gr) (hgr : w.heap.size < gr) (he : pre ++ L k' = L m) : Sr w w1 gw gr gm s m k' v pre := by
  obtain ⟨h2, h3, h4, h5, h6, h7⟩ := h
  have hlt : w.heap.size < wr.heap.size := (Array.getElem?_eq_some_iff.1 h7).1
  have hltg : gw < wr.heap.size := (Array.getElem?_eq_some_iff.1 h2).1
  obtain ⟨⟨_, hz, hg⟩, hf⟩ := hp
  have hb := h4.zz.blk
  refine ⟨⟨(hg.block gw hltg (by have := ne_types h2 hb (by decide); simpa using this)).trans h2, ?_, ?_, h5.grown hg hb hne, below_grown h6 hg (by omega), he⟩, (hg.block _ hlt (by simp; omega)).trans h7⟩
  · obtain ⟨b, A, n, c, hc⟩ := hb
    exact Kd.R_mono (Kd.R_grown (Kd.R_types h3 hc (by decide)) hg (fun k hk => by have := hk.2; simpa using this)) (fun _ hk => hk.1)
  · obtain ⟨A, c, hzb, hm⟩ := hz
    refine ⟨A, c, hzb, hm, fun ad hA hn ho => ?_⟩
    have h1 := hf _ _ _ (blk_cell hzb 1) ad hA hn
    have h2 := Kd.R_lt h3 _ ho.symm
    omega
end
end Go.Proofs.Ytdboepiobaehkaa.Mn
end
section
set_option linter.unusedVariables false
set_option linter.unusedSimpArgs false
namespace Go.Proofs.Ytdboepiobaehkaa.Mo
open Go.RowKit Go.Proofs.YtdboepiobaehkaaW.PrintWords Go.Proofs.YtdboepiobaehkaaW.PrintLast Go.Proofs.YtdboepiobaehkaaW.PrintMore Go.Proofs.Ytdboepiobaehkaa.PW Go.Proofs.Ytdboepiobaehkaa.Pc Go.Proofs.Ytdboepiobaehkaa.Ma Go.Proofs.Ytdboepiobaehkaa.Mb Go.Proofs.Ytdboepiobaehkaa.Mc Go.Proofs.Ytdboepiobaehkaa.Md Go.Proofs.Ytdboepiobaehkaa.Me Go.Proofs.Ytdboepiobaehkaa.Mi Go.Proofs.Ytdboepiobaehkaa.Mj Go.Proofs.Ytdboepiobaehkaa.Mk Go.Proofs.Ytdboepiobaehkaa.Ml Go.Proofs.Ytdboepiobaehkaa.Mn Dg
open Pm (sgn)
theorem L_next {k : Nat} (h : k ≠ 0) : L k = ((k % 16777216 : Nat) : Int) :: L (k / 16777216) := dg_pos _ h
theorem and_mask (k : Nat) : (((k : Int).natAbs &&& (16777215 : Int).natAbs : Nat) : Int) = ((k % 16777216 : Nat) : Int) := by
  have := Nat.and_two_pow_sub_one_eq_mod k 24
  rw [Int.natAbs_natCast, ← this]
  rfl
set_option maxHeartbeats 1600000 in
theorem fromBig_yes {w : World} {q : Nat} {z : Int} (hz : Z w q z) (h1 : bl z.natAbs ≤ 2400) :
    Calls Try.prog 139 #[.pointer (some ⟨q, 0, none⟩)] w (GivesW w (sgn z) (L z.natAbs) true) := by
  have hB := Me.bitLen (hz.below (below_alloc w (.cells #[.int .i64 0, .slice none 0 0] 29))) (by omega)
  have HB := Lib.hid hB
  have hgt : ((bl z.natAbs : Nat) : Int) ≤ 2400 := by omega
  clear hB
  have HZ := Lib.hid hz
  have HL := Lib.hid h1
  clear hz h1
  generalize bl z.natAbs = b at hgt HB
  go_enter Try.func139, Try.ntmps139
  go_wp2_with fail
  refine HB.out.mono ?_
  rintro e w1 ⟨rfl, n, rfl⟩
  have hb0 : Below w.heap.size w ((w.alloc (.cells #[.int .i64 0, .slice none 0 0] 29)).drewN n) := below_then (below_alloc w _) (Me.below_drawn n)
  have hS := Me.sign (HZ.out.below hb0)
  have hbx : ((w.alloc (.cells #[.int .i64 0, .slice none 0 0] 29)).drewN n).heap[w.heap.size]? = some (.cells #[.int .i64 0, .slice none 0 0] 29 (0, 0)) := ((Me.below_drawn n).block w.heap.size (by simp)).trans (heap_alloc_new w _)
  have hsz : ((w.alloc (.cells #[.int .i64 0, .slice none 0 0] 29)).drewN n).heap.size = w.heap.size + 1 := by show (w.alloc _).heap.size = _; simp
  have HS := Lib.hid hS
  have HB0 := Lib.hid hb0
  have HBX := Lib.hid hbx
  have HSZ := Lib.hid hsz
  clear hS hb0 hbx hsz
  generalize hW0 : (w.alloc (.cells #[.int .i64 0, .slice none 0 0] 29)).drewN n = W0 at *
  clear hW0
  go_wp2_with fail
  refine HS.out.mono ?_
  rintro e w2 ⟨rfl, rfl⟩
  -- the integers that are made
  have hz2 := HZ.out.below (below_then (below_then HB0.out (Ma.below_alloc W0 (.cells #[.int .i64 (sgn z), .slice none 0 0] 29))) (Ma.below_alloc _ (.cells #[.bool false, .slice none 0 0] 111)))
  have hp2 : Blk ((W0.alloc (.cells #[.int .i64 (sgn z), .slice none 0 0] 29)).alloc (.cells #[.bool false, .slice none 0 0] 111)) (W0.heap.size + 1) := by
    have := (Z.new (W0.alloc (.cells #[.int .i64 (sgn z), .slice none 0 0] 29))).blk
    simpa using this
  have hA := Me.abs hp2 hz2 (by have := HL.out; omega)
  have HA := Lib.hid hA
  have HP2 := Lib.hid hp2
  clear hA hz2 hp2
  go_wp2_with fail
  refine HA.out.mono ?_
  rintro e w3 ⟨rfl, hz3, hg3⟩
  have HZ3 := Lib.hid hz3
  have HG3 := Lib.hid hg3
  have hn3 := newInt (w := w3) (n := 16777215) (by decide) (by decide)
  have HN3 := Lib.hid hn3
  clear hz3 hg3 hn3
  go_wp2_with fail
  refine HN3.out.mono ?_
  rintro e w4 ⟨gm, rfl, hz4, hgm, hb4⟩
  have hst : Sr w w4 W0.heap.size (W0.heap.size + 1) gm (sgn z) z.natAbs z.natAbs (.slice none 0 0) [] := by
    have hA1 : Below W0.heap.size W0 ((W0.alloc (.cells #[.int .i64 (sgn z), .slice none 0 0] 29)).alloc (.cells #[.bool false, .slice none 0 0] 111)) := below_then (Ma.below_alloc W0 _) (Ma.below_alloc _ _)
    have hA2 : Below W0.heap.size W0 w3 := below_grown hA1 HG3.out (by omega)
    have hs3 := HG3.out.size
    simp at hs3
    have hcell : ((W0.alloc (.cells #[.int .i64 (sgn z), .slice none 0 0] 29)).alloc (.cells #[.bool false, .slice none 0 0] 111)).heap[W0.heap.size]? = some (.cells #[.int .i64 (sgn z), .slice none 0 0] 29 (0, 0)) := ((Ma.below_alloc _ _).block _ (by simp)).trans (heap_alloc_new W0 _)
    have hcell3 := (HG3.out.block W0.heap.size (by simp; omega) (by simp)).trans hcell
    have hcell4 := (hb4.block W0.heap.size (by omega)).trans hcell3
    have h0 : w.heap.size < W0.heap.size := by have := HSZ.out; omega
    refine ⟨⟨hcell4, Kd.R_nil _ _ _ _ _, ZF.of (HZ3.out.below hb4), ZF.of hz4, below_then (below_then HB0.out hA2) hb4, rfl⟩, ?_⟩
    exact (hb4.block _ (by omega)).trans ((hA2.block _ h0).trans HBX.out)
  have hne : gm ≠ W0.heap.size + 1 := by have := HZ3.out.lt; omega
  have hlim : (L z.natAbs).length ≤ 100 := (L_len_iff _ _).2 (by have := HL.out; omega)
  have HST := Lib.hid hst
  have HNE := Lib.hid hne
  have HLIM := Lib.hid hlim
  have hsz2 : w.heap.size < W0.heap.size := by have := HSZ.out; omega
  have HSZ2 := Lib.hid hsz2
  clear hz4 hgm hb4 hst hne hlim hsz2 HZ3 HG3 HN3 HA HP2 HS HB0 HBX HSZ HZ HB
  go_wp2_with fail
  generalize W0.heap.size = g at *
  have hsign : ∀ (wr : World) (k : Nat) (v : Value) (pre : List Int), Sr w wr g (g + 1) gm (sgn z) z.natAbs k v pre → Calls Try.prog 172 #[.pointer (some ⟨g + 1, 0, none⟩)] wr fun e w' => e = .returned (.int .i64 (sgn (k : Int))) ∧ wr = w' := fun wr k v pre h => Me.sign h.1.2.2.1.zz
  have HSG := Lib.hid hsign
  clear hsign
  go_loopg [] (L z.natAbs).length (fun n wr => ∃ (k : Nat) (v : Value) (pre : List Int), n = (L k).length ∧ Hid (Sr w wr g (g + 1) gm (sgn z) z.natAbs k v pre))
  case atStart => exact ⟨_, _, [], rfl, HST⟩
  case round =>
    obtain ⟨k, v, pre, hlen, HR⟩ := hrel
    clear HST
    obtain ⟨A, c, rfl⟩ := Kd.R_slice HR.out.1.2.1
    by_cases hk : k = 0
    · subst hk
      have hs0 : sgn ((0 : Nat) : Int) = 0 := rfl
      have HS0 := Lib.hid hs0
      clear hs0 hlen
      go_wp2_with fail
      refine (HSG.out wr _ _ _ HR.out).mono ?_
      rintro e w2 ⟨rfl, rfl⟩
      rw [HS0.out]
      have k0 := blk_cell HR.out.1.1 0
      have k1 := blk_cell HR.out.1.1 1
      simp only [List.getElem?_toArray, List.getElem?_cons_zero, List.getElem?_cons_succ] at k0 k1
      have c0 := blk_cell HR.out.2 0
      have c1 := blk_cell HR.out.2 1
      have f0 := blk_frozen HR.out.2 0
      have f1 := blk_frozen HR.out.2 1
      simp only [List.getElem?_toArray, List.getElem?_cons_zero, List.getElem?_cons_succ] at c0 c1
      go_wp2
      have hL0 : pre = L z.natAbs := by have := HR.out.1.2.2.2.2.2; rwa [show L 0 = [] from dg_zero _, List.append_nil] at this
      have hR := Kd.R_set (Kd.R_set HR.out.1.2.1 HR.out.2 (by decide) 0 (.int .i64 (sgn z))) (blk_set HR.out.2 0 (.int .i64 (sgn z))) (by decide) 1 (.slice A pre.length c)
      have hB := (HR.out.1.2.2.2.2.1.setCell (p := ⟨w.heap.size, 0, none⟩) (Nat.le_refl _) (.int .i64 (sgn z))).setCell (p := ⟨w.heap.size, 1, none⟩) (Nat.le_refl _) (.slice A pre.length c)
      have hBL := blk_set (blk_set HR.out.2 0 (.int .i64 (sgn z))) 1 (.slice A pre.length c)
      clear c0 c1 f0 f1 k0 k1
      rw [← hL0]
      exact bodyPost_ret (results_ct rfl _ _ w.heap.size 29 #[.int .i64 (sgn z), .slice A pre.length c] (0, 0) _ rfl hBL Try.underlying29 rfl sizeW) rfl ⟨_, rfl, hR, hB⟩
    · have hs1 : sgn ((k : Nat) : Int) = 1 := by unfold sgn; rw [if_neg (by omega), if_neg (by omega)]
      have HS1 := Lib.hid hs1
      have HK := Lib.hid hk
      clear hs1 hk
      go_wp2_with fail
      refine (HSG.out wr _ _ _ HR.out).mono ?_
      rintro e w2 ⟨rfl, rfl⟩
      rw [HS1.out]
      have kc := blk_cell HR.out.1.1 1
      simp only [List.getElem?_toArray, List.getElem?_cons_zero, List.getElem?_cons_succ] at kc
      have hlt := HR.out.1.lt
      have hh := HR.out.1.2.2.2.2.2
      have hpl : (pre.length + 1) * 8 ≤ 140737488355328 := by have := congrArg List.length hh; rw [List.length_append] at this; have := HLIM.out; omega
      have hbk : bl k ≤ 2400 := by
        have : (L k).length ≤ 100 := by have := congrArg List.length hh; rw [List.length_append] at this; have := HLIM.out; omega
        have := (L_len_iff k 100).1 this
        omega
      rw [L_next HK.out] at hh hlen
      have he : (pre ++ [((k % 16777216 : Nat) : Int)]) ++ L (k / 16777216) = L z.natAbs := by rw [List.append_assoc]; exact hh
      have hms : (L (k / 16777216)).length < gk := by rw [hlen]; simp
      have HPL := Lib.hid hpl
      have HBK := Lib.hid hbk
      have HE := Lib.hid he
      have HMS := Lib.hid hms
      clear hh hpl hbk he hms hlen
      have hand : ∀ W : World, Below wr.heap.size wr W → Blk W wr.heap.size → Calls Try.prog 192 #[.pointer (some ⟨wr.heap.size, 0, none⟩), .pointer (some ⟨g + 1, 0, none⟩), .pointer (some ⟨gm, 0, none⟩)] W fun e w' => e = .returned (.pointer (some ⟨wr.heap.size, 0, none⟩)) ∧ Hid (Sr w w' g (g + 1) gm (sgn z) z.natAbs k (.slice A pre.length c) pre) ∧ Hid (Z w' wr.heap.size ((k % 16777216 : Nat) : Int)) ∧ w'.cell? ⟨g, 1, none⟩ = some (.slice A pre.length c) := by
        intro W hW hB
        have hr := HR.out.below hW
        have h0 := HR.out.1.2.2.1.zz.lt
        have h2 := HR.out.1.2.2.2.1.zz.lt
        have hbk : bl ((k : Nat) : Int).natAbs ≤ 2400 := by
          have := HBK.out
          rw [Int.natAbs_natCast]; omega
        refine (andd hB hr.1.2.2.1.zz hr.1.2.2.2.1.zz (by omega) (by decide)).mono ?_
        rintro e w' ⟨rfl, hz, hg⟩
        rw [and_mask] at hz
        have hr2 := hr.other hB (by omega) (by omega) (by have := HR.out.lt; omega) hg
        exact ⟨rfl, Lib.hid hr2, Lib.hid hz, hr2.1.cell⟩
      have HAND := Lib.hid hand
      have hint : ∀ W : World, Z W wr.heap.size ((k % 16777216 : Nat) : Int) → Calls Try.prog 175 #[.pointer (some ⟨wr.heap.size, 0, none⟩)] W fun e w' => e = .returned (.int .i64 ((k % 16777216 : Nat) : Int)) ∧ W = w' := fun W hW => int64 hW (by omega) (by omega)
      have HINT := Lib.hid hint
      clear hand hint
      go_wp2_with fail
      go_region_law (first | (go_simp; go_at_call 192; refine (HAND.out _ (by first | exact ((Below.refl _ _).alloc (Nat.le_refl _) _).drew | exact (Below.refl _ _).drew.alloc (Nat.le_refl _) _) (by first | exact (Z.new wr).blk.below (Below.refl _ _).drew | exact (Z.new wr.drew).blk)).mono ?_; rintro e w2 ⟨rfl, HR2, HZ2, kc2⟩; have hl2 := HR2.out.1.lt; clear HR kc) | (go_simp; go_at_call 175; refine (HINT.out _ HZ2.out).mono ?_; rintro e w3 ⟨rfl, rfl⟩) | (refine Kd.R_append_step (Kd.int .i64) (w0 := w) w.heap.size (by rfl) (.tmp 22) (.tmp 28) 22 2 (.int .i64 0) 8 rfl Try.underlying22 infoI rfl (by decide) (by omega) _ pre ((k % 16777216 : Nat) : Int) [.int .i64 ((k % 16777216 : Nat) : Int)] (fun _ => True) (fun _ => False) rfl rfl rfl (fun _ hk => hk.elim) (fun _ _ => trivial) HR2.out.1.2.1 HR2.out.1.2.2.2.2.1 HR2.out.1.2.2.2.2.1.size HPL.out ?_; intro v1 w1 ho hb hg hat; obtain ⟨A1, c1, rfl⟩ := Kd.R_slice ho; obtain ⟨ff, ⟨u, cc⟩, HP⟩ := HR2.out.put ho hg hat hb HSZ2.out; rw [show (pre ++ [((k % 16777216 : Nat) : Int)]).length = pre.length + 1 by simp] at HP; have HPH := Lib.hid HP; clear HP ho hb hg hat HR2))
      all_goals clear HAND HINT HZ2
      all_goals
        clear kc2 hl2 hlt
        go_wp2_with fail
        refine (rshF HPH.out.2.2.1.zz (n := 24) (Nat.le_trans HBK.out (by decide)) (by decide)).mono ?_
        intro e w5 hp
        have HR5 := Lib.hid (HPH.out.rest hp HNE.out (Nat.lt_succ_of_lt HSZ2.out) HE.out)
        obtain ⟨⟨rfl, hz5, hg5⟩, hf5⟩ := hp
        clear hz5 hg5 hf5 HPH ff cc
        go_wp2_with fail
        go_roundg (L (k / 16777216)).length
        case measure => exact HMS.out
        case rel => exact ⟨_, _, _, rfl, HR5⟩
end Go.Proofs.Ytdboepiobaehkaa.Mo
end
section
namespace Go.Proofs.Ytdboepiobaehkaa.Mq
end Go.Proofs.Ytdboepiobaehkaa.Mq
end
section
set_option linter.unusedVariables false
set_option linter.unusedSimpArgs false
namespace Go.Proofs.Ytdboepiobaehkaa.Mr
open Go.RowKit Go.Proofs.YtdboepiobaehkaaW.PrintWords Go.Proofs.Ytdboepiobaehkaa.PW Go.Proofs.Ytdboepiobaehkaa.Pc Go.Proofs.Ytdboepiobaehkaa.Pb Go.Proofs.Ytdboepiobaehkaa.Pw Go.Proofs.Ytdboepiobaehkaa.Ma Go.Proofs.Ytdboepiobaehkaa.Mb Go.Proofs.Ytdboepiobaehkaa.Mc Go.Proofs.Ytdboepiobaehkaa.Md Go.Proofs.Ytdboepiobaehkaa.Me Go.Proofs.Ytdboepiobaehkaa.Mg Go.Proofs.Ytdboepiobaehkaa.Mh Go.Proofs.Ytdboepiobaehkaa.Mq Dg
def both (s0 : Int) (l0 : List Int) (s1 : Int) (l1 : List Int) (z : Int) : Int × List Int × Int := if isW s0 l0 = true ∧ isW s1 l1 = true then fit z else (0, [], 1)
end Go.Proofs.Ytdboepiobaehkaa.Mr
end
section
set_option linter.unusedVariables false
set_option linter.unusedSimpArgs false
namespace Go.Proofs.Ytdboepiobaehkaa.Mu
open Go.RowKit Go.Proofs.YtdboepiobaehkaaW.PrintWords Go.Proofs.Ytdboepiobaehkaa.PW Go.Proofs.Ytdboepiobaehkaa.Pc Go.Proofs.Ytdboepiobaehkaa.Pb Go.Proofs.Ytdboepiobaehkaa.Pw Go.Proofs.Ytdboepiobaehkaa.Ma Go.Proofs.Ytdboepiobaehkaa.Mb Go.Proofs.Ytdboepiobaehkaa.Mc Go.Proofs.Ytdboepiobaehkaa.Md Go.Proofs.Ytdboepiobaehkaa.Me Go.Proofs.Ytdboepiobaehkaa.Mg Go.Proofs.Ytdboepiobaehkaa.Mh Go.Proofs.Ytdboepiobaehkaa.Mq Go.Proofs.Ytdboepiobaehkaa.Mr Dg
theorem alloc_size (w : World) (o : Obj) : (w.alloc o).heap.size = w.heap.size + 1 := by simp
theorem below_put {B q : Nat} {w w1 w2 : World} (h : Below B w w1) (k : w1.grownBy w2 (some q)) (hq : B ≤ q) (hw1 : B ≤ w1.heap.size) : Below B w w2 :=
  h.trans ⟨k.os, k.tape, k.output, k.size, fun i hi => k.block i (Nat.lt_of_lt_of_le hi hw1) (by simp; omega)⟩
end Go.Proofs.Ytdboepiobaehkaa.Mu
end
section
set_option linter.unusedVariables false
set_option linter.unusedSimpArgs false
namespace Go.Proofs.Ytdboepiobaehkaa.Na
open Go.RowKit Go.Proofs.YtdboepiobaehkaaW.PrintWords Go.Proofs.Ytdboepiobaehkaa.PW Go.Proofs.Ytdboepiobaehkaa.Pc Go.Proofs.Ytdboepiobaehkaa.Pb Go.Proofs.Ytdboepiobaehkaa.Pw Go.Proofs.Ytdboepiobaehkaa.Ma Go.Proofs.Ytdboepiobaehkaa.Mb Go.Proofs.Ytdboepiobaehkaa.Mc Go.Proofs.Ytdboepiobaehkaa.Md Go.Proofs.Ytdboepiobaehkaa.Me Go.Proofs.Ytdboepiobaehkaa.Mg Go.Proofs.Ytdboepiobaehkaa.Mh Go.Proofs.Ytdboepiobaehkaa.Mk Go.Proofs.Ytdboepiobaehkaa.Mn Go.Proofs.Ytdboepiobaehkaa.Mu Go.Proofs.Ytdboepiobaehkaa.Nb Dg
open Pm (sgn)
theorem sizeN : (Try.prog.info? 71).map (·.size) = some 2 := by kernel_rfl
theorem boxes1 (w : World) (o : Obj) : ∀ W, Below (w.heap.size + 1) (w.alloc o) W → Below w.heap.size w W ∧ W.heap[w.heap.size]? = some o ∧ w.heap.size + 1 ≤ W.heap.size := fun W hW =>
  ⟨(Ma.below_alloc w o).trans (hW.mono (by omega)), (hW.block _ (by omega)).trans (heap_alloc_new w o), by have := hW.size; rw [alloc_size] at this; exact this⟩
theorem boxes2 (w : World) (o o2 : Obj) : ∀ W, Below (w.heap.size + 2) ((w.alloc o).alloc o2) W → Below w.heap.size w W ∧ W.heap[w.heap.size]? = some o ∧ W.heap[w.heap.size + 1]? = some o2 ∧ w.heap.size + 2 ≤ W.heap.size := fun W hW => by
  have e := alloc_size w o
  have h := boxes1 (w.alloc o) o2 W (by rw [e]; exact hW)
  rw [e] at h
  exact ⟨(Ma.below_alloc w o).trans (h.1.mono (by omega)), (h.1.block _ (by omega)).trans (heap_alloc_new w o), h.2.1, h.2.2⟩
theorem zset {w : World} {p gw t : Nat} {n : Int} {cs : Array Value} (h : Z w p n) (hw : w.heap[gw]? = some (.cells cs t (0, 0))) (ht : t ≠ 111) (hc : ∀ (i : Nat) (x : Int), cs[i]? ≠ some (Value.int .u32 x)) (i : Nat) (u : Value) : Z (w.setCell ⟨gw, i, none⟩ u) p n := by
  obtain ⟨A, c, hb, hm⟩ := h
  have hne : p ≠ gw := by
    rintro rfl
    rw [hb] at hw
    injection hw with hw
    injection hw with _ hw
    exact ht hw.symm
  refine ⟨A, c, (Below.heap_setCell _ _ _ _ hne).trans hb, Mn.Mg.kept_at hm fun ad hA hn => Below.heap_setCell _ _ _ _ ?_⟩
  intro e
  have e : ad.block = gw := e
  obtain ⟨ad', hA', hc'⟩ := hm.1.2.2 hn
  rw [hA] at hA'
  injection hA' with hA'
  subst hA'
  obtain ⟨cs', hs, hR, hcell⟩ := hc' 0 _ (List.getElem?_eq_getElem hn)
  have hR' : cs' = [.int .u32 (D n.natAbs)[0]] := hR
  subst hR'
  have h4 := hcell 0 _ rfl
  rw [← e] at hw
  simp only [World.cell?, Mn.add_block, hw] at h4
  split at h4
  · cases h4
  · exact hc _ _ h4
def GivesN (w : World) (z e : Int) (en : Ending) (w' : World) : Prop := ∃ g, en = .returned (.agg #[.pointer (some ⟨g, 0, none⟩), .int .i64 e]) ∧ Z w' g z ∧ Below w.heap.size w w'
theorem two_cells {u v : Value} (hu : ∀ x : Int, u ≠ Value.int .u32 x) (hv : ∀ x : Int, v ≠ Value.int .u32 x) : ∀ (i : Nat) (x : Int), (#[u, v] : Array Value)[i]? ≠ some (Value.int .u32 x) := by
  intro i x h
  match i, h with
  | 0, h => exact hu x (by simpa using h)
  | 1, h => exact hv x (by simpa using h)
  | n + 2, h => simp at h
theorem storedN {w W : World} {g q : Nat} {z e : Int} (hg : W.heap[g]? = some (.cells #[.pointer none, .int .i64 0] 71 (0, 0))) (hb : Below w.heap.size w W) (hw : w.heap.size ≤ g) (hz : Z W q z) :
    ((W.setCell ⟨g, 0, none⟩ (.pointer (some ⟨q, 0, none⟩))).setCell ⟨g, 1, none⟩ (.int .i64 e)).heap[g]? = some (.cells #[.pointer (some ⟨q, 0, none⟩), .int .i64 e] 71 (0, 0)) ∧ Z ((W.setCell ⟨g, 0, none⟩ (.pointer (some ⟨q, 0, none⟩))).setCell ⟨g, 1, none⟩ (.int .i64 e)) q z ∧ Below w.heap.size w ((W.setCell ⟨g, 0, none⟩ (.pointer (some ⟨q, 0, none⟩))).setCell ⟨g, 1, none⟩ (.int .i64 e)) :=
  ⟨blk_set (blk_set hg 0 _) 1 _, zset (zset hz hg (by decide) (two_cells (fun x => by simp) (fun x => by simp)) 0 _) (blk_set hg 0 (.pointer (some ⟨q, 0, none⟩))) (by decide) (two_cells (fun x => by simp) (fun x => by simp)) 1 _, (hb.setCell (p := ⟨g, 0, none⟩) hw _).setCell (p := ⟨g, 1, none⟩) hw _⟩
theorem cellsN {W : World} {g : Nat} {u v : Value} {t : Nat} (hg : W.heap[g]? = some (.cells #[u, v] t (0, 0))) : W.cell? ⟨g, 0, none⟩ = some u ∧ W.cell? ⟨g, 1, none⟩ = some v ∧ W.frozen? ⟨g, 0, none⟩ = false ∧ W.frozen? ⟨g, 1, none⟩ = false ∧ g < W.heap.size :=
  ⟨blk_cell hg 0, blk_cell hg 1, blk_frozen hg 0, blk_frozen hg 1, (Array.getElem?_eq_some_iff.1 hg).1⟩
theorem news_below {W0 W W2 : World} {p : Nat} (h : Below W0.heap.size W0 W) (hp : W0.heap.size ≤ p) (hg : W.grownBy W2 (some p)) : Below W0.heap.size W0 W2 := below_put h hg hp h.size
set_option maxHeartbeats 400000 in
theorem nsign {w : World} {q : Nat} {z e : Int} (hz : Z w q z) :
    Calls Try.prog 125 #[.agg #[.pointer (some ⟨q, 0, none⟩), .int .i64 e]] w fun en w' => en = .returned (.int .i64 (sgn z)) ∧ Below w.heap.size w w' := by
  have HS := Lib.hid (Me.sign (hz.below (Ma.below_alloc w (.cells #[.pointer (some ⟨q, 0, none⟩), .int .i64 e] 71))))
  clear hz
  go_enter Try.func125, Try.ntmps125
  go_wp2_with fail
  refine HS.out.mono ?_
  rintro en w1 ⟨rfl, rfl⟩
  go_wp2
  go_ret
  exact ⟨rfl, Ma.below_alloc _ _⟩
end Go.Proofs.Ytdboepiobaehkaa.Na
end
section
set_option linter.unusedVariables false
set_option linter.unusedSimpArgs false
namespace Go.Proofs.Ytdboepiobaehkaa.Nd
open Go.RowKit Go.Proofs.YtdboepiobaehkaaW.PrintWords Go.Proofs.Ytdboepiobaehkaa.PW Go.Proofs.Ytdboepiobaehkaa.Pc Go.Proofs.Ytdboepiobaehkaa.Pb Go.Proofs.Ytdboepiobaehkaa.Pw Go.Proofs.Ytdboepiobaehkaa.Ma Go.Proofs.Ytdboepiobaehkaa.Mb Go.Proofs.Ytdboepiobaehkaa.Mc Go.Proofs.Ytdboepiobaehkaa.Md Go.Proofs.Ytdboepiobaehkaa.Me Go.Proofs.Ytdboepiobaehkaa.Mg Go.Proofs.Ytdboepiobaehkaa.Mh Go.Proofs.Ytdboepiobaehkaa.Mk Go.Proofs.Ytdboepiobaehkaa.Mn Go.Proofs.Ytdboepiobaehkaa.Mo Go.Proofs.Ytdboepiobaehkaa.Mu Go.Proofs.Ytdboepiobaehkaa.Na Go.Proofs.Ytdboepiobaehkaa.Nb Dg
open Pm (sgn)
theorem sgn_eq0 {z : Int} : (sgn z = 0) = (z = 0) := by
  apply propext
  unfold Pm.sgn
  split
  · omega
  · split <;> omega
set_option maxHeartbeats 400000 in
theorem nzero {w : World} : Calls Try.prog 190 #[] w (GivesN w 0 0) := by
  obtain ⟨W0, hW0⟩ : ∃ W0, W0 = w.alloc (.cells #[.pointer none, .int .i64 0] 71) := ⟨_, rfl⟩
  obtain ⟨hb0, hx0, hs0⟩ := boxes1 w (.cells #[.pointer none, .int .i64 0] 71) W0 (by rw [hW0]; exact Below.refl _ _)
  have hx1 := ((Ma.below_alloc W0 (.cells #[.bool false, .slice none 0 0] 111)).block _ (show w.heap.size < W0.heap.size by omega)).trans hx0
  have HX1 := Lib.hid hx1
  have HB1 := Lib.hid (below_then hb0 (Ma.below_alloc W0 (.cells #[.bool false, .slice none 0 0] 111)))
  have HW := Lib.hid hW0
  obtain ⟨c0, c1, f0, f1, l0⟩ := cellsN hx1
  clear hb0 hx0 hx1 hW0
  go_enter Try.func190, Try.ntmps190
  go_upto_region 1 with fail
  rw [← HW.out]
  clear HW
  go_wp2
  have hst := storedN (q := W0.heap.size) (z := 0) (e := 0) HX1.out HB1.out (Nat.le_refl _) (Z.new W0)
  exact bodyPost_ret (results_single rfl (.cell w.heap.size 71 #[.pointer (some ⟨W0.heap.size, 0, none⟩), .int .i64 0] (0, 0) _ rfl hst.1 Try.underlying71 rfl sizeN .nil)) rfl ⟨_, rfl, hst.2.1, hst.2.2⟩
def oddz (z : Int) : Int := z / 2 ^ tz z.natAbs
def odde (z e : Int) : Int := if z = 0 then 0 else e + (tz z.natAbs : Nat)
set_option maxRecDepth 20000 in
set_option maxHeartbeats 1600000 in
theorem nodd {w : World} {q : Nat} {z e : Int} (hz : Z w q z) (hb : bl z.natAbs ≤ 268435456) (h1 : -1000000 ≤ e) (h2 : e ≤ 1000000) :
    Calls Try.prog 138 #[.agg #[.pointer (some ⟨q, 0, none⟩), .int .i64 e]] w (GivesN w (oddz z) (odde z e)) := by
  obtain ⟨W0, hW0⟩ : ∃ W0, W0 = (w.alloc (.cells #[.pointer (some ⟨q, 0, none⟩), .int .i64 e] 71)).alloc (.cells #[.pointer none, .int .i64 0] 71) := ⟨_, rfl⟩
  obtain ⟨hb0, hx0, hx1, hs0⟩ := boxes2 w (.cells #[.pointer (some ⟨q, 0, none⟩), .int .i64 e] 71) (.cells #[.pointer none, .int .i64 0] 71) W0 (by rw [hW0]; exact Below.refl _ _)
  have zx := hz.below hb0
  obtain ⟨c0, c1, _, _, l0⟩ := cellsN hx0
  obtain ⟨d0, d1, f0, f1, l1⟩ := cellsN hx1
  have HS := Lib.hid (fun (W : World) (hb : Below W0.heap.size W0 W) => nsign (e := e) (zx.below hb))
  have stay := Lib.hid (fun (W : World) (hb : Below W0.heap.size W0 W) => (⟨cellsN ((hb.block _ l0).trans hx0), cellsN ((hb.block _ l1).trans hx1), (hb.block _ l1).trans hx1, hb0.trans (hb.mono (Nat.le_trans (by omega) hs0))⟩ : _ ∧ _ ∧ _ ∧ Below w.heap.size w W))
  have HW := Lib.hid hW0
  clear hz hb0 hx0 hx1 hW0
  by_cases h0 : z = 0
  · have es : sgn z = 0 := by rw [sgn_eq0]; exact h0
    have ez : oddz z = 0 := by unfold oddz; rw [h0, Int.zero_ediv]
    have ee : odde z e = 0 := by unfold odde; rw [if_pos h0]
    rw [ez, ee]
    rw [es] at HS
    clear es ez ee h0 zx
    go_enter Try.func138, Try.ntmps138
    go_upto_region 1 with fail
    rw [← HW.out]
    clear HW
    go_wp2_with fail
    refine (HS.out W0 (Below.refl _ _)).mono ?_
    rintro en w1 ⟨rfl, hb1⟩
    obtain ⟨⟨p0, p1, _, _, p2⟩, ⟨t0, t1, t2, t3, t4⟩, hx1, hbw⟩ := stay.out w1 hb1
    have HB1 := Lib.hid hb1
    clear hx1 hbw hb1
    go_wp2_with fail
    refine nzero.mono ?_
    rintro en w2 ⟨g, rfl, hz2, hb2⟩
    have hb12 := below_then HB1.out hb2
    clear p0 p1 p2 t0 t1 t2 t3 t4 HB1 hb2
    obtain ⟨⟨p0, p1, _, _, p2⟩, ⟨t0, t1, t2, t3, t4⟩, hx1, hbw⟩ := stay.out w2 hb12
    have HX2 := Lib.hid hx1
    have HB2 := Lib.hid hbw
    have HZ2 := Lib.hid hz2
    clear hx1 hbw hb12 hz2
    go_wp2
    have hst := storedN (e := 0) HX2.out HB2.out (by omega) HZ2.out
    exact bodyPost_ret (results_single rfl (.cell (w.heap.size + 1) 71 #[.pointer (some ⟨g, 0, none⟩), .int .i64 0] (0, 0) _ rfl hst.1 Try.underlying71 rfl sizeN .nil)) rfl ⟨_, rfl, hst.2.1, hst.2.2⟩
  · have es : ¬ sgn z = 0 := by rw [sgn_eq0]; exact h0
    have ht := tz_lt (show z.natAbs ≠ 0 by omega)
    have HT := Lib.hid (fun (W : World) (hb' : Below W0.heap.size W0 W) => Nb.twos (zx.below hb') h0 (by omega))
    have HR := Lib.hid (fun (W : World) (p : Nat) (hp : Blk W p) (hb' : Below W0.heap.size W0 W) => Mk.rsh (n := tz z.natAbs) hp (zx.below hb') hb (by omega))
    have ee : odde z e = e + (tz z.natAbs : Nat) := by unfold odde; rw [if_neg h0]
    rw [ee]
    rw [show z / 2 ^ tz z.natAbs = oddz z from rfl] at HR
    generalize sgn z = sx at HS es
    have htl : tz z.natAbs ≤ 268435456 := by omega
    generalize tz z.natAbs = t at *
    have HE := Lib.hid (show IntKind.i64.wrap (e + IntKind.i64.wrap (t : Int)) = e + (t : Int) by rw [IntKind.wrap_i64, IntKind.wrap_i64]; omega)
    clear ee h0 zx hb ht
    generalize oddz z = y at *
    go_enter Try.func138, Try.ntmps138
    go_upto_region 1 with fail
    rw [← HW.out]
    clear HW
    go_wp2_with fail
    refine (HS.out W0 (Below.refl _ _)).mono ?_
    rintro en w1 ⟨rfl, hb1⟩
    obtain ⟨⟨p0, p1, _, _, p2⟩, ⟨t0, t1, t2, t3, t4⟩, hx1, hbw⟩ := stay.out w1 hb1
    have HB1 := Lib.hid hb1
    clear hx1 hbw hb1
    go_wp2_with fail
    refine (HT.out w1 HB1.out).mono ?_
    rintro en w2 ⟨rfl, n2, rfl⟩
    obtain ⟨w3, hw3⟩ : ∃ w3, w3 = w1.drewN n2 := ⟨_, rfl⟩
    have hb12 : Below W0.heap.size W0 w3 := by rw [hw3]; exact below_then HB1.out (below_drawn n2)
    rw [← hw3]
    clear p0 p1 p2 t0 t1 t2 t3 t4 HB1
    obtain ⟨⟨p0, p1, _, _, p2⟩, ⟨t0, t1, t2, t3, t4⟩, hx1, hbw⟩ := stay.out w3 hb12
    have HB2 := Lib.hid hb12
    have hs2 := hb12.size
    clear hx1 hbw hb12 hw3
    go_wp2_with fail
    go_region_held3 (fun w' => w'.cell? ⟨w.heap.size, 0, none⟩ = some (.pointer (some ⟨q, 0, none⟩)) ∧ w'.cell? ⟨w.heap.size, 1, none⟩ = some (.int .i64 e)) (go_keep)
      (first | (go_at_call 170; refine (HR.out _ _ (by first | exact (Z.new _).blk | exact (Z.new w3).blk.below (Below.refl _ _).drew) (by first | exact (HB2.out.alloc hs2 _) | exact HB2.out.drew.alloc hs2 _ | exact (HB2.out.alloc hs2 _).drew)).mono ?_; rintro en w4 ⟨rfl, hz2, hg2⟩; have hb2 := news_below (W0 := W0) (by first | exact (HB2.out.alloc hs2 _) | exact HB2.out.drew.alloc hs2 _ | exact (HB2.out.alloc hs2 _).drew) hs2 hg2; obtain ⟨⟨p0, p1, _, _, p2⟩, ⟨t0, t1, t2, t3, t4⟩, hx1, hbw⟩ := stay.out w4 hb2; have HX2 := Lib.hid hx1; have HB4 := Lib.hid hbw; have HZ2 := Lib.hid hz2; clear hz2 hg2 hb2 hx1 hbw))
    all_goals go_wp2
    all_goals
      first
        | (have hst := storedN (e := IntKind.i64.wrap (e + IntKind.i64.wrap (t : Int))) HX2.out HB4.out (by omega) HZ2.out
           exact bodyPost_ret (results_single rfl (.cell (w.heap.size + 1) 71 #[.pointer (some ⟨_, 0, none⟩), .int .i64 (IntKind.i64.wrap (e + IntKind.i64.wrap (t : Int)))] (0, 0) _ rfl hst.1 Try.underlying71 rfl sizeN .nil)) rfl ⟨_, by rw [HE.out], hst.2.1, hst.2.2⟩)
theorem sizeD : (Try.prog.info? 31).map (·.size) = some 3 := by kernel_rfl
def GivesD (w : World) (s : Int) (l : List Int) (x c : Int) (e : Ending) (w' : World) : Prop :=
  ∃ u, e = .returned (.tuple #[.agg #[.int .i64 s, u, .int .i64 x], .int .i64 c]) ∧ Kd.R (Kd.int .i64) 2 w' w.heap.size (fun _ => True) u l ∧ Below w.heap.size w w'
theorem storedD {w W : World} {g : Nat} {s x : Int} {u : Value} {l : List Int} (hg : W.heap[g]? = some (.cells #[.int .i64 0, .slice none 0 0, .int .i64 0] 31 (0, 0))) (hb : Below w.heap.size w W) (hw : w.heap.size ≤ g) (hR : Kd.R (Kd.int .i64) 2 W w.heap.size (fun _ => True) u l) :
    (((W.setCell ⟨g, 0, none⟩ (.int .i64 s)).setCell ⟨g, 1, none⟩ u).setCell ⟨g, 2, none⟩ (.int .i64 x)).heap[g]? = some (.cells #[.int .i64 s, u, .int .i64 x] 31 (0, 0)) ∧ Kd.R (Kd.int .i64) 2 (((W.setCell ⟨g, 0, none⟩ (.int .i64 s)).setCell ⟨g, 1, none⟩ u).setCell ⟨g, 2, none⟩ (.int .i64 x)) w.heap.size (fun _ => True) u l ∧ Below w.heap.size w (((W.setCell ⟨g, 0, none⟩ (.int .i64 s)).setCell ⟨g, 1, none⟩ u).setCell ⟨g, 2, none⟩ (.int .i64 x)) :=
  ⟨blk_set (blk_set (blk_set hg 0 _) 1 _) 2 _, Kd.R_set (Kd.R_set (Kd.R_set hR hg (by decide) 0 _) (blk_set hg 0 _) (by decide) 1 _) (blk_set (blk_set hg 0 _) 1 _) (by decide) 2 _, ((hb.setCell (p := ⟨g, 0, none⟩) hw _).setCell (p := ⟨g, 1, none⟩) hw _).setCell (p := ⟨g, 2, none⟩) hw _⟩
theorem cellsD {W : World} {g : Nat} {u v x : Value} {t : Nat} (hg : W.heap[g]? = some (.cells #[u, v, x] t (0, 0))) : W.cell? ⟨g, 0, none⟩ = some u ∧ W.cell? ⟨g, 1, none⟩ = some v ∧ W.cell? ⟨g, 2, none⟩ = some x ∧ W.frozen? ⟨g, 0, none⟩ = false ∧ W.frozen? ⟨g, 1, none⟩ = false ∧ W.frozen? ⟨g, 2, none⟩ = false ∧ g < W.heap.size :=
  ⟨blk_cell hg 0, blk_cell hg 1, blk_cell hg 2, blk_frozen hg 0, blk_frozen hg 1, blk_frozen hg 2, (Array.getElem?_eq_some_iff.1 hg).1⟩
end Go.Proofs.Ytdboepiobaehkaa.Nd
end
section
set_option linter.unusedVariables false
set_option linter.unusedSimpArgs false
namespace Go.Proofs.Ytdboepiobaehkaa.Nf
open Go.RowKit Go.Proofs.YtdboepiobaehkaaW.PrintWords Go.Proofs.Ytdboepiobaehkaa.PW Go.Proofs.Ytdboepiobaehkaa.Pc Go.Proofs.Ytdboepiobaehkaa.Pb Go.Proofs.Ytdboepiobaehkaa.Pw Go.Proofs.Ytdboepiobaehkaa.Ma Go.Proofs.Ytdboepiobaehkaa.Mb Go.Proofs.Ytdboepiobaehkaa.Mc Go.Proofs.Ytdboepiobaehkaa.Md Go.Proofs.Ytdboepiobaehkaa.Me Go.Proofs.Ytdboepiobaehkaa.Mn Go.Proofs.Ytdboepiobaehkaa.Mo Go.Proofs.Ytdboepiobaehkaa.Mu Go.Proofs.Ytdboepiobaehkaa.Na Go.Proofs.Ytdboepiobaehkaa.Nd Go.Proofs.Ytdboepiobaehkaa.Qa Dg
open Pm (sgn)
theorem oddz_abs (z : Int) : (oddz z).natAbs = z.natAbs / 2 ^ tz z.natAbs ∧ sgn (oddz z) = sgn z := by
  unfold oddz
  by_cases h0 : z = 0
  · subst h0; simp
  · have hn : z.natAbs ≠ 0 := by omega
    have ho := tz_odd hn
    have hd := (tz_dvd (k := tz z.natAbs) hn).2 (Nat.le_refl _)
    have hf := St.fdiv_neg z.natAbs (tz z.natAbs) hn
    rw [if_pos hd] at hf
    have e : ((2 : Int) ^ tz z.natAbs) = ((2 ^ tz z.natAbs : Nat) : Int) := by simp
    by_cases hz : z < 0
    · have e1 : -((z.natAbs : Nat) : Int) = z := by omega
      rw [e1] at hf
      rw [hf]
      generalize z.natAbs / 2 ^ tz z.natAbs = m at *
      refine ⟨by omega, ?_⟩
      unfold Pm.sgn
      rw [if_pos (by omega), if_pos hz]
    · have e1 : z = ((z.natAbs : Nat) : Int) := by omega
      have e2 : z / 2 ^ tz z.natAbs = ((z.natAbs / 2 ^ tz z.natAbs : Nat) : Int) := by
        rw [e]
        conv => lhs; arg 1; rw [e1]
        rfl
      rw [e2]
      generalize z.natAbs / 2 ^ tz z.natAbs = m at *
      refine ⟨by omega, ?_⟩
      unfold Pm.sgn
      rw [if_neg (by omega), if_neg (by omega), if_neg hz, if_neg h0]
theorem fitD_eq (z e : Int) : fitD z e = if bl (oddz z).natAbs ≤ 2400 ∧ -3000 ≤ odde z e ∧ odde z e ≤ 3000 then (sgn (oddz z), L (oddz z).natAbs, odde z e, 0) else (0, [], 0, 3) := by
  obtain ⟨h1, h2⟩ := oddz_abs z
  rw [h1, h2]
  unfold fitD odde
  by_cases h0 : z = 0
  · subst h0
    rw [if_pos rfl, if_pos rfl, if_pos (by simp [bl])]
    simp [Pm.sgn, L_zero]
  · rw [if_neg h0, if_neg h0]
theorem restoredN {w W : World} {g q p : Nat} {z e : Int} {f : Int} (hg : W.heap[g]? = some (.cells #[.pointer (some ⟨p, 0, none⟩), .int .i64 f] 71 (0, 0))) (hb : Below w.heap.size w W) (hw : w.heap.size ≤ g) (hz : Z W q z) :
    ((W.setCell ⟨g, 0, none⟩ (.pointer (some ⟨q, 0, none⟩))).setCell ⟨g, 1, none⟩ (.int .i64 e)).heap[g]? = some (.cells #[.pointer (some ⟨q, 0, none⟩), .int .i64 e] 71 (0, 0)) ∧ Z ((W.setCell ⟨g, 0, none⟩ (.pointer (some ⟨q, 0, none⟩))).setCell ⟨g, 1, none⟩ (.int .i64 e)) q z ∧ Below w.heap.size w ((W.setCell ⟨g, 0, none⟩ (.pointer (some ⟨q, 0, none⟩))).setCell ⟨g, 1, none⟩ (.int .i64 e)) :=
  ⟨blk_set (blk_set hg 0 _) 1 _, zset (zset hz hg (by decide) (two_cells (fun x => by simp) (fun x => by simp)) 0 _) (blk_set hg 0 (.pointer (some ⟨q, 0, none⟩))) (by decide) (two_cells (fun x => by simp) (fun x => by simp)) 1 _, (hb.setCell (p := ⟨g, 0, none⟩) hw _).setCell (p := ⟨g, 1, none⟩) hw _⟩
theorem storedDA {w W : World} {g : Nat} {s x : Int} {u : Value} {l : List Int} (o : Obj) (hg : W.heap[g]? = some (.cells #[.int .i64 0, .slice none 0 0, .int .i64 0] 31 (0, 0))) (hb : Below w.heap.size w W) (hw : w.heap.size ≤ g) (hR : Kd.R (Kd.int .i64) 2 W w.heap.size (fun _ => True) u l) :
    ((((W.setCell ⟨g, 0, none⟩ (.int .i64 s)).setCell ⟨g, 1, none⟩ u).setCell ⟨g, 2, none⟩ (.int .i64 x)).alloc o).heap[g]? = some (.cells #[.int .i64 s, u, .int .i64 x] 31 (0, 0)) ∧ Kd.R (Kd.int .i64) 2 ((((W.setCell ⟨g, 0, none⟩ (.int .i64 s)).setCell ⟨g, 1, none⟩ u).setCell ⟨g, 2, none⟩ (.int .i64 x)).alloc o) w.heap.size (fun _ => True) u l ∧ Below w.heap.size w ((((W.setCell ⟨g, 0, none⟩ (.int .i64 s)).setCell ⟨g, 1, none⟩ u).setCell ⟨g, 2, none⟩ (.int .i64 x)).alloc o) := by
  have hst := storedD (s := s) (x := x) hg hb hw hR
  exact ⟨((Ma.below_alloc _ o).block _ (Array.getElem?_eq_some_iff.1 hst.1).1).trans hst.1, Kd.R_below hst.2.1 (Ma.below_alloc _ o), below_then hst.2.2 (Ma.below_alloc _ o)⟩
set_option maxRecDepth 20000 in
set_option maxHeartbeats 1600000 in
theorem ndyadic {w : World} {q : Nat} {z e : Int} (hz : Z w q z) (hb : bl z.natAbs ≤ 268435456) (h1 : -1000000 ≤ e) (h2 : e ≤ 1000000) :
    Calls Try.prog 76 #[.agg #[.pointer (some ⟨q, 0, none⟩), .int .i64 e]] w (GivesD w (fitD z e).1 (fitD z e).2.1 (fitD z e).2.2.1 (fitD z e).2.2.2) := by
  obtain ⟨W0, hW0⟩ : ∃ W0, W0 = (w.alloc (.cells #[.pointer (some ⟨q, 0, none⟩), .int .i64 e] 71)).alloc (.cells #[.int .i64 0, .slice none 0 0, .int .i64 0] 31) := ⟨_, rfl⟩
  obtain ⟨hb0, hx0, hx1, hs0⟩ := boxes2 w (.cells #[.pointer (some ⟨q, 0, none⟩), .int .i64 e] 71) (.cells #[.int .i64 0, .slice none 0 0, .int .i64 0] 31) W0 (by rw [hW0]; exact Below.refl _ _)
  obtain ⟨c0, c1, cf0, cf1, l0⟩ := cellsN hx0
  obtain ⟨d0, d1, d2, f0, f1, f2, l1⟩ := cellsD hx1
  have HO := Lib.hid (nodd (hz.below hb0) hb h1 h2)
  have HX0 := Lib.hid hx0
  have HX1 := Lib.hid hx1
  have HB0 := Lib.hid hb0
  have HW := Lib.hid hW0
  have hbo : bl (oddz z).natAbs ≤ 268435456 := by
    rw [(oddz_abs z).1]
    have := bl_mono (Nat.div_le_self z.natAbs (2 ^ tz z.natAbs))
    omega
  rw [fitD_eq]
  have n0 : w.heap.size ≠ w.heap.size + 1 := by omega
  have n1 := Ne.symm n0
  clear hz hb hb0 hx0 hx1 hW0 h1 h2
  generalize oddz z = y at *
  generalize odde z e = x at *
  have step := Lib.hid (fun (w2 : World) (g : Nat) (hz2 : Z w2 g y) (hb2 : Below W0.heap.size W0 w2) => (⟨(restoredN (e := x) ((hb2.block _ l0).trans HX0.out) (HB0.out.trans (hb2.mono (Nat.le_trans (by omega) hs0))) (Nat.le_refl _) hz2), (Below.heap_setCell _ _ _ _ n1).trans ((Below.heap_setCell _ _ _ _ n1).trans ((hb2.block _ l1).trans HX1.out))⟩ : _ ∧ ((w2.setCell ⟨w.heap.size, 0, none⟩ (.pointer (some ⟨g, 0, none⟩))).setCell ⟨w.heap.size, 1, none⟩ (.int .i64 x)).heap[w.heap.size + 1]? = _))
  have cases : (bl y.natAbs ≤ 2400 ∧ -3000 ≤ x ∧ x ≤ 3000) ∨ (bl y.natAbs ≤ 2400 ∧ x < -3000) ∨ (bl y.natAbs ≤ 2400 ∧ 3000 < x) ∨ ¬ bl y.natAbs ≤ 2400 := by omega
  rcases cases with ⟨hL, x0, x1⟩ | ⟨hL, x0⟩ | ⟨hL, x0⟩ | hL
  · have HF := Lib.hid (fun (W : World) (g : Nat) (hz : Z W g y) => Mo.fromBig_yes hz hL)
    rw [if_pos ⟨hL, x0, x1⟩]
    clear hL hbo
    generalize sgn y = s at *
    generalize L y.natAbs = l at *
    go_enter Try.func76, Try.ntmps76
    go_upto_region 1 with fail
    rw [← HW.out]
    clear HW
    go_wp2_with fail
    refine HO.out.mono ?_
    rintro en w2 ⟨g, rfl, hz2, hb2⟩
    have hx0 := (hb2.block _ l0).trans HX0.out
    obtain ⟨p0, p1, p2, p3, k0⟩ := cellsN hx0
    obtain ⟨⟨h30, h31, h32⟩, h33⟩ := step.out w2 g hz2 hb2
    have HY0 := Lib.hid h30
    have HZ3 := Lib.hid h31
    have HB3 := Lib.hid h32
    have HY1 := Lib.hid h33
    clear hx0 hb2 hz2 h30 h31 h32 h33 step
    go_upto_region 2 with fail
    generalize hw3 : (w2.setCell ⟨w.heap.size, 0, none⟩ (.pointer (some ⟨g, 0, none⟩))).setCell ⟨w.heap.size, 1, none⟩ (.int .i64 x) = w3 at *
    clear hw3 p0 p1 p2 p3 k0
    obtain ⟨p0, p1, p2, p3, k0⟩ := cellsN HY0.out
    obtain ⟨r0, r1, r2, r3, r4, r5, k1⟩ := cellsD HY1.out
    go_wp2_with fail
    refine (HF.out w3 g HZ3.out).mono ?_
    rintro en w4 ⟨u, rfl, hR, hb4⟩
    obtain ⟨A, c, rfl⟩ := Kd.R_slice hR
    have hx0 := (hb4.block _ k0).trans HY0.out
    have hx1 := (hb4.block _ k1).trans HY1.out
    have hs4 := hb4.size
    clear p0 p1 p2 p3 r0 r1 r2 r3 r4 r5
    obtain ⟨p0, p1, p2, p3, m0⟩ := cellsN hx0
    obtain ⟨r0, r1, r2, r3, r4, r5, m1⟩ := cellsD hx1
    have HV1 := Lib.hid hx1
    have HR := Lib.hid (Kd.R_lower (base' := w.heap.size) hR (Nat.le_of_lt k0))
    have HB4 := Lib.hid (HB3.out.trans (hb4.mono (Nat.le_of_lt k0)))
    clear hx0 hx1 hR hb4 HZ3 HB3 HY0 HY1
    go_wp2
    have hst := storedDA (s := s) (x := x) (.cells #[.int .i64 s, .slice A l.length c] 29) HV1.out HB4.out (by omega) HR.out
    exact bodyPost_ret (results_ct rfl _ _ (w.heap.size + 1) 31 #[.int .i64 s, .slice A l.length c, .int .i64 x] (0, 0) _ rfl hst.1 Try.underlying31 rfl sizeD) rfl ⟨_, rfl, hst.2.1, hst.2.2⟩
  · have HF := Lib.hid (fun (W : World) (g : Nat) (hz : Z W g y) => Mo.fromBig_yes hz hL)
    rw [if_neg (show ¬ (bl y.natAbs ≤ 2400 ∧ -3000 ≤ x ∧ x ≤ 3000) from fun h => by omega)]
    clear hL hbo
    generalize sgn y = s at *
    generalize L y.natAbs = l at *
    go_enter Try.func76, Try.ntmps76
    go_upto_region 1 with fail
    rw [← HW.out]
    clear HW
    go_wp2_with fail
    refine HO.out.mono ?_
    rintro en w2 ⟨g, rfl, hz2, hb2⟩
    have hx0 := (hb2.block _ l0).trans HX0.out
    obtain ⟨p0, p1, p2, p3, k0⟩ := cellsN hx0
    obtain ⟨⟨h30, h31, h32⟩, h33⟩ := step.out w2 g hz2 hb2
    have HY0 := Lib.hid h30
    have HZ3 := Lib.hid h31
    have HB3 := Lib.hid h32
    have HY1 := Lib.hid h33
    clear hx0 hb2 hz2 h30 h31 h32 h33 step
    go_upto_region 2 with fail
    generalize hw3 : (w2.setCell ⟨w.heap.size, 0, none⟩ (.pointer (some ⟨g, 0, none⟩))).setCell ⟨w.heap.size, 1, none⟩ (.int .i64 x) = w3 at *
    clear hw3 p0 p1 p2 p3 k0
    obtain ⟨p0, p1, p2, p3, k0⟩ := cellsN HY0.out
    obtain ⟨r0, r1, r2, r3, r4, r5, k1⟩ := cellsD HY1.out
    go_wp2_with fail
    refine (HF.out w3 g HZ3.out).mono ?_
    rintro en w4 ⟨u, rfl, hR, hb4⟩
    obtain ⟨A, c, rfl⟩ := Kd.R_slice hR
    have hx0 := (hb4.block _ k0).trans HY0.out
    have hx1 := (hb4.block _ k1).trans HY1.out
    have hs4 := hb4.size
    clear p0 p1 p2 p3 r0 r1 r2 r3 r4 r5
    obtain ⟨p0, p1, p2, p3, m0⟩ := cellsN hx0
    obtain ⟨r0, r1, r2, r3, r4, r5, m1⟩ := cellsD hx1
    have HV1 := Lib.hid hx1
    have HR := Lib.hid (Kd.R_nil (Kd.int .i64) 2 w4 w.heap.size (fun _ => True))
    have HB4 := Lib.hid (HB3.out.trans (hb4.mono (Nat.le_of_lt k0)))
    clear hx0 hx1 hR hb4 HZ3 HB3 HY0 HY1
    go_wp2
    have hst := storedDA (s := 0) (x := 0) (.cells #[.int .i64 s, .slice A l.length c] 29) HV1.out HB4.out (by omega) HR.out
    exact bodyPost_ret (results_ct rfl _ _ (w.heap.size + 1) 31 #[.int .i64 0, .slice none 0 0, .int .i64 0] (0, 0) _ rfl hst.1 Try.underlying31 rfl sizeD) rfl ⟨_, rfl, hst.2.1, hst.2.2⟩
  · have HF := Lib.hid (fun (W : World) (g : Nat) (hz : Z W g y) => Mo.fromBig_yes hz hL)
    rw [if_neg (show ¬ (bl y.natAbs ≤ 2400 ∧ -3000 ≤ x ∧ x ≤ 3000) from fun h => by omega)]
    clear hL hbo
    generalize sgn y = s at *
    generalize L y.natAbs = l at *
    go_enter Try.func76, Try.ntmps76
    go_upto_region 1 with fail
    rw [← HW.out]
    clear HW
    go_wp2_with fail
    refine HO.out.mono ?_
    rintro en w2 ⟨g, rfl, hz2, hb2⟩
    have hx0 := (hb2.block _ l0).trans HX0.out
    obtain ⟨p0, p1, p2, p3, k0⟩ := cellsN hx0
    obtain ⟨⟨h30, h31, h32⟩, h33⟩ := step.out w2 g hz2 hb2
    have HY0 := Lib.hid h30
    have HZ3 := Lib.hid h31
    have HB3 := Lib.hid h32
    have HY1 := Lib.hid h33
    clear hx0 hb2 hz2 h30 h31 h32 h33 step
    go_upto_region 2 with fail
    generalize hw3 : (w2.setCell ⟨w.heap.size, 0, none⟩ (.pointer (some ⟨g, 0, none⟩))).setCell ⟨w.heap.size, 1, none⟩ (.int .i64 x) = w3 at *
    clear hw3 p0 p1 p2 p3 k0
    obtain ⟨p0, p1, p2, p3, k0⟩ := cellsN HY0.out
    obtain ⟨r0, r1, r2, r3, r4, r5, k1⟩ := cellsD HY1.out
    go_wp2_with fail
    refine (HF.out w3 g HZ3.out).mono ?_
    rintro en w4 ⟨u, rfl, hR, hb4⟩
    obtain ⟨A, c, rfl⟩ := Kd.R_slice hR
    have hx0 := (hb4.block _ k0).trans HY0.out
    have hx1 := (hb4.block _ k1).trans HY1.out
    have hs4 := hb4.size
    clear p0 p1 p2 p3 r0 r1 r2 r3 r4 r5
    obtain ⟨p0, p1, p2, p3, m0⟩ := cellsN hx0
    obtain ⟨r0, r1, r2, r3, r4, r5, m1⟩ := cellsD hx1
    have HV1 := Lib.hid hx1
    have HR := Lib.hid (Kd.R_nil (Kd.int .i64) 2 w4 w.heap.size (fun _ => True))
    have HB4 := Lib.hid (HB3.out.trans (hb4.mono (Nat.le_of_lt k0)))
    clear hx0 hx1 hR hb4 HZ3 HB3 HY0 HY1
    go_wp2
    have hst := storedDA (s := 0) (x := 0) (.cells #[.int .i64 s, .slice A l.length c] 29) HV1.out HB4.out (by omega) HR.out
    exact bodyPost_ret (results_ct rfl _ _ (w.heap.size + 1) 31 #[.int .i64 0, .slice none 0 0, .int .i64 0] (0, 0) _ rfl hst.1 Try.underlying31 rfl sizeD) rfl ⟨_, rfl, hst.2.1, hst.2.2⟩
  · have HF := Lib.hid (fun (W : World) (g : Nat) (hz : Z W g y) => Mn.fromBig_no hz hbo hL)
    rw [if_neg (show ¬ (bl y.natAbs ≤ 2400 ∧ -3000 ≤ x ∧ x ≤ 3000) from fun h => hL h.1)]
    clear hL hbo
    go_enter Try.func76, Try.ntmps76
    go_upto_region 1 with fail
    rw [← HW.out]
    clear HW
    go_wp2_with fail
    refine HO.out.mono ?_
    rintro en w2 ⟨g, rfl, hz2, hb2⟩
    have hx0 := (hb2.block _ l0).trans HX0.out
    obtain ⟨p0, p1, p2, p3, k0⟩ := cellsN hx0
    obtain ⟨⟨h30, h31, h32⟩, h33⟩ := step.out w2 g hz2 hb2
    have HY0 := Lib.hid h30
    have HZ3 := Lib.hid h31
    have HB3 := Lib.hid h32
    have HY1 := Lib.hid h33
    clear hx0 hb2 hz2 h30 h31 h32 h33 step
    go_upto_region 2 with fail
    generalize hw3 : (w2.setCell ⟨w.heap.size, 0, none⟩ (.pointer (some ⟨g, 0, none⟩))).setCell ⟨w.heap.size, 1, none⟩ (.int .i64 x) = w3 at *
    clear hw3 p0 p1 p2 p3 k0
    obtain ⟨p0, p1, p2, p3, k0⟩ := cellsN HY0.out
    obtain ⟨r0, r1, r2, r3, r4, r5, k1⟩ := cellsD HY1.out
    go_wp2_with fail
    refine (HF.out w3 g HZ3.out).mono ?_
    rintro en w4 ⟨u, rfl, hR, hb4⟩
    obtain ⟨A, c, rfl⟩ := Kd.R_slice hR
    have hx0 := (hb4.block _ k0).trans HY0.out
    have hx1 := (hb4.block _ k1).trans HY1.out
    have hs4 := hb4.size
    clear p0 p1 p2 p3 r0 r1 r2 r3 r4 r5
    obtain ⟨p0, p1, p2, p3, m0⟩ := cellsN hx0
    obtain ⟨r0, r1, r2, r3, r4, r5, m1⟩ := cellsD hx1
    have HV1 := Lib.hid hx1
    have HR := Lib.hid (Kd.R_nil (Kd.int .i64) 2 w4 w.heap.size (fun _ => True))
    have HB4 := Lib.hid (HB3.out.trans (hb4.mono (Nat.le_of_lt k0)))
    clear hx0 hx1 hR hb4 HZ3 HB3 HY0 HY1
    go_wp2
    have hst := storedDA (s := 0) (x := 0) (.cells #[.int .i64 0, .slice A 0 c] 29) HV1.out HB4.out (by omega) HR.out
    exact bodyPost_ret (results_ct rfl _ _ (w.heap.size + 1) 31 #[.int .i64 0, .slice none 0 0, .int .i64 0] (0, 0) _ rfl hst.1 Try.underlying31 rfl sizeD) rfl ⟨_, rfl, hst.2.1, hst.2.2⟩
end Go.Proofs.Ytdboepiobaehkaa.Nf
end
section
set_option linter.unusedVariables false
set_option linter.unusedSimpArgs false
namespace Go.Proofs.Ytdboepiobaehkaa.Va
open Go.RowKit Go.Proofs.YtdboepiobaehkaaW.PrintWords Go.Proofs.Ytdboepiobaehkaa.PW Go.Proofs.Ytdboepiobaehkaa.Pc Go.Proofs.Ytdboepiobaehkaa.Pb Go.Proofs.Ytdboepiobaehkaa.Pw Go.Proofs.Ytdboepiobaehkaa.Pm Go.Proofs.Ytdboepiobaehkaa.Ma Go.Proofs.Ytdboepiobaehkaa.Mc Go.Proofs.Ytdboepiobaehkaa.Mh Go.Proofs.Ytdboepiobaehkaa.Mu Go.Proofs.Ytdboepiobaehkaa.Na Go.Proofs.Ytdboepiobaehkaa.Nd Go.Proofs.Ytdboepiobaehkaa.Nf Go.Proofs.Ytdboepiobaehkaa.Qa Dg Fp
def zf (x : Nat) : Int := sv (sg Ieee.single x) (Wc.mant x)
theorem zf_natAbs (x : Nat) : (zf x).natAbs = Wc.mant x := by
  unfold zf sv
  split <;> omega
theorem mant_lt (x : Nat) : Wc.mant x < 16777216 := by
  unfold Wc.mant
  split <;> omega
theorem zf_bl (x : Nat) : bl (zf x).natAbs ≤ 24 := by
  rw [zf_natAbs]
  exact bl_le (mant_lt x)
theorem expo_bd {x : Nat} (h : fin Ieee.single x = true) : -149 ≤ Wc.expo x ∧ Wc.expo x ≤ 104 := by
  unfold fin rg at h
  rw [sw32, ir32] at h
  have h := of_decide_eq_true h
  unfold Wc.expo
  split <;> omega
theorem nnumOf {w : World} (x : Nat) (hx : x < 4294967296) :
    Calls Try.prog 75 #[.float .f32 x] w (GivesN w (zf x) (Wc.expo x)) := by
  obtain ⟨W0, hW0⟩ : ∃ W0, W0 = w.alloc (.cells #[.pointer none, .int .i64 0] 71) := ⟨_, rfl⟩
  obtain ⟨hb0, hx0, hs0⟩ := boxes1 w (.cells #[.pointer none, .int .i64 0] 71) W0 (by rw [hW0]; exact Below.refl _ _)
  have HP := Lib.hid (fun (W : World) => Wc.parts x hx W)
  have HB0 := Lib.hid hb0
  have HX0 := Lib.hid hx0
  have HW := Lib.hid hW0
  have h1 := mant_lt x
  have h2 := zf_natAbs x
  have HN := Lib.hid (fun (W : World) => newInt (w := W) (n := zf x) (by omega) (by omega))
  obtain ⟨d0, d1, f0, f1, l1⟩ := cellsN hx0
  clear hb0 hx0 hW0 h1 h2
  unfold zf at *
  generalize Wc.expo x = e at *
  generalize sv (sg Ieee.single x) (Wc.mant x) = z at *
  go_enter Try.func75, Try.ntmps75
  go_upto_region 1 with fail
  rw [← HW.out]
  clear HW
  go_wp2_with fail
  refine (HP.out _).mono ?_
  rintro en w1 ⟨rfl, rfl⟩
  go_wp2_with fail
  refine (HN.out _).mono ?_
  rintro en w2 ⟨g, rfl, hz, hg, hb⟩
  have hx1 := (hb.block _ l1).trans HX0.out
  clear d0 d1 f0 f1
  obtain ⟨b0, b1, g0, g1, k1⟩ := cellsN hx1
  have HX2 := Lib.hid hx1
  have HB2 := Lib.hid (below_then HB0.out hb)
  have HZ2 := Lib.hid hz
  clear hz hb hx1
  go_wp2
  have hst := storedN (e := e) HX2.out HB2.out (by omega) HZ2.out
  exact bodyPost_ret (results_single rfl (.cell w.heap.size 71 #[.pointer (some ⟨_, 0, none⟩), .int .i64 e] (0, 0) _ rfl hst.1 Try.underlying71 rfl sizeN .nil)) rfl ⟨_, rfl, hst.2.1, hst.2.2⟩
end Go.Proofs.Ytdboepiobaehkaa.Va
end
section
set_option linter.unusedVariables false
set_option linter.unusedSimpArgs false
namespace Go.Proofs.Ytdboepiobaehkaa.Nc
open Go.RowKit Go.Proofs.YtdboepiobaehkaaW.PrintWords Go.Proofs.Ytdboepiobaehkaa.PW Go.Proofs.Ytdboepiobaehkaa.Pc Go.Proofs.Ytdboepiobaehkaa.Pb Go.Proofs.Ytdboepiobaehkaa.Pw Go.Proofs.Ytdboepiobaehkaa.Ma Go.Proofs.Ytdboepiobaehkaa.Mb Go.Proofs.Ytdboepiobaehkaa.Mc Go.Proofs.Ytdboepiobaehkaa.Md Go.Proofs.Ytdboepiobaehkaa.Me Go.Proofs.Ytdboepiobaehkaa.Mg Go.Proofs.Ytdboepiobaehkaa.Mh Go.Proofs.Ytdboepiobaehkaa.Mk Go.Proofs.Ytdboepiobaehkaa.Mn Go.Proofs.Ytdboepiobaehkaa.Mu Go.Proofs.Ytdboepiobaehkaa.Na Dg
open Pm (sgn)
theorem sgn_eq0 {z : Int} : (sgn z = 0) = (z = 0) := by
  apply propext
  unfold Pm.sgn
  split
  · omega
  · split <;> omega
end Go.Proofs.Ytdboepiobaehkaa.Nc
end
section
set_option linter.unusedVariables false
set_option linter.unusedSimpArgs false
namespace Go.Proofs.Ytdboepiobaehkaa.Ng
open Go.RowKit Go.Proofs.YtdboepiobaehkaaW.PrintWords Go.Proofs.Ytdboepiobaehkaa.PW Go.Proofs.Ytdboepiobaehkaa.Pc Go.Proofs.Ytdboepiobaehkaa.Pb Go.Proofs.Ytdboepiobaehkaa.Pw Go.Proofs.Ytdboepiobaehkaa.Ma Go.Proofs.Ytdboepiobaehkaa.Mh Go.Proofs.Ytdboepiobaehkaa.Mu Go.Proofs.Ytdboepiobaehkaa.Na Go.Proofs.Ytdboepiobaehkaa.Nd Go.Proofs.Ytdboepiobaehkaa.Qa Dg
def Two (w W : World) (s e : Int) (A : Option Addr) (n c : Nat) : Prop :=
  (W.cell? ⟨w.heap.size, 0, none⟩ = some (.int .i64 s) ∧ W.cell? ⟨w.heap.size, 1, none⟩ = some (.slice A n c) ∧ W.cell? ⟨w.heap.size, 2, none⟩ = some (.int .i64 e)) ∧
  (W.cell? ⟨w.heap.size + 1, 0, none⟩ = some (.int .i64 0) ∧ W.cell? ⟨w.heap.size + 1, 1, none⟩ = some (.slice none 0 0) ∧ W.cell? ⟨w.heap.size + 1, 2, none⟩ = some (.int .i64 0) ∧ W.frozen? ⟨w.heap.size + 1, 0, none⟩ = false ∧ W.frozen? ⟨w.heap.size + 1, 1, none⟩ = false ∧ W.frozen? ⟨w.heap.size + 1, 2, none⟩ = false) ∧
  (w.heap.size < W.heap.size ∧ w.heap.size + 1 < W.heap.size) ∧ W.heap[w.heap.size + 1]? = some (.cells #[.int .i64 0, .slice none 0 0, .int .i64 0] 31 (0, 0)) ∧ Below w.heap.size w W
theorem two (w : World) (s e : Int) (A : Option Addr) (n c : Nat) {W0 : World} (hW0 : W0 = (w.alloc (.cells #[.int .i64 s, .slice A n c, .int .i64 e] 31)).alloc (.cells #[.int .i64 0, .slice none 0 0, .int .i64 0] 31)) :
    Below w.heap.size w W0 ∧ ∀ W, Below W0.heap.size W0 W → Two w W s e A n c := by
  obtain ⟨hb0, hx0, hx1, hs0⟩ := boxes2 w (.cells #[.int .i64 s, .slice A n c, .int .i64 e] 31) (.cells #[.int .i64 0, .slice none 0 0, .int .i64 0] 31) W0 (by rw [hW0]; exact Below.refl _ _)
  refine ⟨hb0, fun W hb => ?_⟩
  have hy0 := (hb.block _ (by omega)).trans hx0
  have hy1 := (hb.block _ (by omega)).trans hx1
  obtain ⟨a0, a1, a2, a3, a4, a5, a6⟩ := cellsD hy0
  obtain ⟨b0, b1, b2, b3, b4, b5, b6⟩ := cellsD hy1
  exact ⟨⟨a0, a1, a2⟩, ⟨b0, b1, b2, b3, b4, b5⟩, ⟨a6, b6⟩, hy1, hb0.trans (hb.mono (Nat.le_trans (by omega) hs0))⟩
end Go.Proofs.Ytdboepiobaehkaa.Ng
end
section
set_option linter.unusedVariables false
set_option linter.unusedSimpArgs false
namespace Go.Proofs.Ytdboepiobaehkaa.Vb
open Go.RowKit Go.Proofs.YtdboepiobaehkaaW.PrintWords Go.Proofs.Ytdboepiobaehkaa.PW Go.Proofs.Ytdboepiobaehkaa.Pc Go.Proofs.Ytdboepiobaehkaa.Pb Go.Proofs.Ytdboepiobaehkaa.Pw Go.Proofs.Ytdboepiobaehkaa.Pm Go.Proofs.Ytdboepiobaehkaa.Pv Go.Proofs.Ytdboepiobaehkaa.Ma Go.Proofs.Ytdboepiobaehkaa.Mc Go.Proofs.Ytdboepiobaehkaa.Mh Go.Proofs.Ytdboepiobaehkaa.Mu Go.Proofs.Ytdboepiobaehkaa.Na Go.Proofs.Ytdboepiobaehkaa.Nd Go.Proofs.Ytdboepiobaehkaa.Nf Go.Proofs.Ytdboepiobaehkaa.Qa Go.Proofs.Ytdboepiobaehkaa.Va Dg Fp
def ofF (x : Nat) : Int × List Int × Int × Int := if fin Ieee.single x = true then fitD (zf x) (Wc.expo x) else (0, [], 0, 1)
theorem iDyadicOf {w : World} (x : Nat) (hx : x < 4294967296) :
    Calls Try.prog 28 #[.float .f32 x] w (GivesD w (ofF x).1 (ofF x).2.1 (ofF x).2.2.1 (ofF x).2.2.2) := by
  obtain ⟨W0, hW0⟩ : ∃ W0, W0 = w.alloc (.cells #[.int .i64 0, .slice none 0 0, .int .i64 0] 31) := ⟨_, rfl⟩
  obtain ⟨hb0, hx0, hs0⟩ := boxes1 w (.cells #[.int .i64 0, .slice none 0 0, .int .i64 0] 31) W0 (by rw [hW0]; exact Below.refl _ _)
  have HF := Lib.hid (fun (W : World) => Wc.isFinite x hx W)
  have HB0 := Lib.hid hb0
  have HX0 := Lib.hid hx0
  have HW := Lib.hid hW0
  obtain ⟨d0, d1, d2, f0, f1, f2, l1⟩ := cellsD hx0
  clear hb0 hx0 hW0
  unfold ofF
  cases hf : fin Ieee.single x with
  | false =>
    rw [if_neg (by simp)]
    rw [hf] at HF
    go_enter Try.func28, Try.ntmps28
    go_upto_region 1 with fail
    rw [← HW.out]
    clear HW
    go_wp2_with fail
    refine (HF.out _).mono ?_
    rintro en w1 ⟨rfl, rfl⟩
    go_wp2
    have hst := storedD (s := 0) (x := 0) (u := .slice none 0 0) HX0.out HB0.out (by omega) (Kd.R_nil _ _ _ _ _)
    exact bodyPost_ret (results_ct rfl _ _ w.heap.size 31 #[.int .i64 0, .slice none 0 0, .int .i64 0] (0, 0) _ rfl hst.1 Try.underlying31 rfl sizeD) rfl ⟨_, rfl, hst.2.1, hst.2.2⟩
  | true =>
    rw [if_pos rfl]
    rw [hf] at HF
    have he := expo_bd hf
    have hz1 := zf_bl x
    have HN := Lib.hid (fun (W : World) => nnumOf (w := W) x hx)
    have HD := Lib.hid (fun (W : World) (g : Nat) (hz : Z W g (zf x)) => ndyadic (e := Wc.expo x) hz (by omega) (by omega) (by omega))
    clear he hz1 hf
    generalize Wc.expo x = e at *
    generalize zf x = z at *
    generalize fitD z e = r at *
    obtain ⟨r1, r2, r3, r4⟩ := r
    go_enter Try.func28, Try.ntmps28
    go_upto_region 1 with fail
    rw [← HW.out]
    clear HW
    go_wp2_with fail
    refine (HF.out _).mono ?_
    rintro en w1 ⟨rfl, rfl⟩
    go_wp2_with fail
    refine (HN.out _).mono ?_
    rintro en w2 ⟨g, rfl, hz, hb⟩
    have HZ := Lib.hid hz
    have HB2 := Lib.hid hb
    clear hz hb d0 d1 d2 f0 f1 f2
    go_wp2_with fail
    refine (HD.out _ _ HZ.out).mono ?_
    rintro en w3 ⟨u, rfl, hR, hb⟩
    obtain ⟨A, c, rfl⟩ := Kd.R_slice hR
    have hb3 := below_then HB2.out hb
    have hx1 := (hb3.block _ l1).trans HX0.out
    obtain ⟨b0, b1, b2, g0, g1, g2, k1⟩ := cellsD hx1
    have HX2 := Lib.hid hx1
    have HB3 := Lib.hid (below_then HB0.out hb3)
    have HR := Lib.hid (Kd.R_lower (base' := w.heap.size) hR (by have h5 := HB2.out.size; have h6 := HB0.out.size; omega))
    clear hR hb hb3 hx1
    go_wp2
    have hst := storedD (s := r1) (x := r3) (u := .slice A r2.length c) HX2.out HB3.out (by omega) HR.out
    exact bodyPost_ret (results_ct rfl _ _ w.heap.size 31 #[.int .i64 r1, .slice A r2.length c, .int .i64 r3] (0, 0) _ rfl hst.1 Try.underlying31 rfl sizeD) rfl ⟨_, rfl, hst.2.1, hst.2.2⟩
theorem zf_neg {x : Nat} (hx : x < 4294967296) (hf : fin Ieee.single x = true) : zf x = if pl Ieee.single x < 0 then -(Wc.mant x : Int) else (Wc.mant x : Int) := by
  have hm0 : pl Ieee.single x = 0 → Wc.mant x = 0 := fun h => by
    have h1 := Wc.pl32 x
    rw [h] at h1
    have h2 : x % 2147483648 = 0 := by
      unfold sv at h1
      split at h1 <;> omega
    unfold Wc.mant
    rw [if_pos (by omega)]
    omega
  unfold zf
  by_cases h0 : pl Ieee.single x = 0
  · rw [if_neg (by omega), hm0 h0]; unfold sv; split <;> rfl
  · rw [Wd.sg_of_pl h0]; unfold sv; by_cases hlt : pl Ieee.single x < 0 <;> simp [hlt]
theorem sl03Of {w : World} (x : Nat) (hx : x < 4294967296) (hf : fin Ieee.single x = true) :
    Calls Try.prog 73 #[.float .f32 x] w fun en w' => ∃ u, en = .returned (.agg #[.int .i64 (dy (zf x) (Wc.expo x)).1, u, .int .i64 (dy (zf x) (Wc.expo x)).2.2]) ∧ Kd.R (Kd.int .i64) 2 w' w.heap.size (fun _ => True) u (dy (zf x) (Wc.expo x)).2.1 ∧ Below w.heap.size w w' := by
  obtain ⟨W0, hW0⟩ : ∃ W0, W0 = w.alloc (.cells #[.int .i64 0, .slice none 0 0, .int .i64 0] 31) := ⟨_, rfl⟩
  obtain ⟨hb0, hx0, hs0⟩ := boxes1 w (.cells #[.int .i64 0, .slice none 0 0, .int .i64 0] 31) W0 (by rw [hW0]; exact Below.refl _ _)
  have HP := Lib.hid (fun (W : World) => We.l01Parts x hx hf W)
  have HB0 := Lib.hid hb0
  have HX0 := Lib.hid hx0
  have HW := Lib.hid hW0
  obtain ⟨d0, d1, d2, f0, f1, f2, l1⟩ := cellsD hx0
  clear hb0 hx0 hW0
  have he := expo_bd hf
  have hz1 := zf_bl x
  have hm := mant_lt x
  have hza := zf_natAbs x
  have hn : nan Ieee.single x = false := by unfold fin nan at *; simp at *; omega
  have hl := Wd.lt32 hx (by decide : 0 < 4294967296) hn Wd.nan0
  rw [Wd.pl0] at hl
  have hneg := zf_neg hx hf
  obtain ⟨K0, hK0⟩ := (sof (zf x) (by omega) (by omega)).rounds
  obtain ⟨K1, hK1⟩ := (smakeD (zf x) (Wc.expo x) (by omega) (by omega) (by omega)).rounds
  generalize dy (zf x) (Wc.expo x) = r at *
  obtain ⟨r1, r2, r3⟩ := r
  have HO := Lib.hid (fun (W : World) => spec_l02Of.calls K0 (zf x) _ _ W hK0)
  have HM := Lib.hid (fun (W : World) (A : Option Addr) (c : Nat) (h1 : Kd.C (Kd.int .i64) W A (L (zf x).natAbs).length (L (zf x).natAbs)) (h2 : (L (zf x).natAbs).length ≤ c) => spec_l03Make.calls K1 (sgn (zf x)) A c (L (zf x).natAbs) (Wc.expo x) _ _ _ W h1 h2 hK1)
  clear he hz1 hf hn hza hK0 hK1
  generalize sgn (zf x) = s at *
  generalize L (zf x).natAbs = l at *
  generalize Wc.expo x = e at *
  generalize zf x = z at *
  generalize Wc.mant x = m at *
  have hm0 : (0 : Int) ≤ m := by omega
  have hz : z = (m : Int) ∨ z = -(m : Int) := by split at hneg <;> omega
  by_cases hlt : pl Ieee.single x < 0
  all_goals
    first
      | (rw [if_pos hlt] at hneg; rw [show decide (pl Ieee.single x < 0) = true by simpa using hlt] at hl)
      | (rw [if_neg hlt] at hneg; rw [show decide (pl Ieee.single x < 0) = false by simpa using hlt] at hl)
    have HG := Lib.hid hneg
    clear hlt hneg
    go_enter Try.func73, Try.ntmps73
    go_upto_region 1 with fail
    rw [← HW.out]
    clear HW
    go_wp2_with fail
    refine (HP.out _).mono ?_
    rintro en w1 ⟨rfl, rfl⟩
    go_wp2_with fail
    try rw [← HG.out]
    refine (HO.out _).mono ?_
    rintro en w2 ⟨u, rfl, hR, hb⟩
    obtain ⟨A, c, rfl⟩ := Kd.R_slice hR
    have HR := Lib.hid (Kd.R_reads' hR)
    have HB2 := Lib.hid hb
    clear hR hb d0 d1 d2 f0 f1 f2
    go_wp2_with fail
    refine (HM.out _ _ _ HR.out.2.2 HR.out.2.1).mono ?_
    rintro en w3 ⟨u, rfl, hR, hb⟩
    obtain ⟨A3, c3, rfl⟩ := Kd.R_slice hR
    have hb3 := below_then HB2.out hb
    have hx1 := (hb3.block _ l1).trans HX0.out
    obtain ⟨b0, b1, b2, g0, g1, g2, k1⟩ := cellsD hx1
    have HX2 := Lib.hid hx1
    have HB3 := Lib.hid (below_then HB0.out hb3)
    have HR3 := Lib.hid (Kd.R_lower (base' := w.heap.size) hR (by have h5 := HB2.out.size; have h6 := HB0.out.size; omega))
    clear hR hb hb3 hx1
    go_wp2
    have hst := storedD (s := r1) (x := r3) (u := .slice A3 r2.length c3) HX2.out HB3.out (by omega) HR3.out
    exact bodyPost_ret (results_single rfl (.cell w.heap.size 31 #[.int .i64 r1, .slice A3 r2.length c3, .int .i64 r3] (0, 0) _ rfl hst.1 Try.underlying31 rfl sizeD .nil)) rfl ⟨_, rfl, hst.2.1, hst.2.2⟩
end Go.Proofs.Ytdboepiobaehkaa.Vb
end
