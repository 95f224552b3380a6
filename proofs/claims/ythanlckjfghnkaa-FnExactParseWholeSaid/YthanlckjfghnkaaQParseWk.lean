/- Lemmas of the claim: Mf, Mg, Mh, Mi, Mj, Mk, Ml, Mn, Mo, Mq, Mr, Mu, Ta, Tb, Tc, Te, Td, Tf, Tv, XkParseWhole, PLExactParseWholex34. -/
import Derived.RegionTactic
import Derived.ChangeAlike
import Derived.Laws.CopyOwn
import Derived.Deep.OwnRows
import Derived.Test.YthanlckjfghnkaaQParseWj
import Derived.Test.YthanlckjfghnkaaQParseWf
import Derived.Deep.RegionLaw
import Derived.Deep.LoopGhost
import Derived.Test.YthanlckjfghnkaaQParseWa
import Derived.Deep.CutBlock
import Derived.Deep.CutRange
import Derived.Deep.DeepCutAuto
import Derived.Test.YthanlckjfghnkaaQParseWe
section
set_option linter.unusedVariables false
set_option linter.unusedSimpArgs false
namespace Go.Proofs.Ythanlckjfghnkaa.Mf
open Go.RowKit Go.Proofs.YthanlckjfghnkaaW.PrintWords Go.Proofs.Ythanlckjfghnkaa.PW Go.Proofs.Ythanlckjfghnkaa.Pc Go.Proofs.Ythanlckjfghnkaa.Ma Go.Proofs.Ythanlckjfghnkaa.Mb Go.Proofs.Ythanlckjfghnkaa.Mc Go.Proofs.Ythanlckjfghnkaa.Md Go.Proofs.Ythanlckjfghnkaa.Me Dg
theorem D_or (a b i : Nat) : (D (a ||| b)).getD i 0 = (((a / 4294967296 ^ i % 4294967296) ||| (b / 4294967296 ^ i % 4294967296) : Nat) : Int) := by
  rw [D_getD]
  congr 1
  rw [show (4294967296 : Nat) = 2 ^ 32 from rfl, ← Nat.pow_mul]
  have h1 : (a ||| b) / 2 ^ (32 * i) = a / 2 ^ (32 * i) ||| b / 2 ^ (32 * i) := by
    rw [← Nat.shiftRight_eq_div_pow, ← Nat.shiftRight_eq_div_pow, ← Nat.shiftRight_eq_div_pow, Nat.shiftRight_or_distrib]
  rw [h1, Nat.or_mod_two_pow]
theorem or_list {a b : Nat} {ys : List Int} (hl : ys.length = max (D a).length (D b).length) (h : ∀ j, j < ys.length → ys.getD j 0 = bits .or .u32 ((D a).getD j 0) ((D b).getD j 0)) : Dig 4294967296 ys ∧ val 4294967296 ys = ((a ||| b : Nat) : Int) := by
  have hb : ∀ j, bits .or .u32 ((D a).getD j 0) ((D b).getD j 0) = (((a ||| b) / 4294967296 ^ j % 4294967296 : Nat) : Int) := by
    intro j
    rw [← D_getD, D_or, D_getD, D_getD]
    exact (bits_nat .u32 32 (by decide) Po.wraps_u32 _ _ (Nat.mod_lt _ (by decide)) (Nat.mod_lt _ (by decide))).2
  have h2 : ∀ j, j < ys.length → ys.getD j 0 = (((a ||| b) / 4294967296 ^ j % 4294967296 : Nat) : Int) := fun j hj => by rw [h j hj, hb]
  constructor
  · exact dig_of_getD fun j hj => by rw [h2 j hj]; have := Nat.mod_lt ((a ||| b) / 4294967296 ^ j) (show 0 < 4294967296 by decide); omega
  · rw [val_digits (by decide) ys (a ||| b) h2]
    congr 1
    apply Nat.mod_eq_of_lt
    have e : (4294967296 : Nat) = 2 ^ 32 := rfl
    rw [e, ← Nat.pow_mul]
    apply Nat.or_lt_two_pow
    · have := D_bl a
      have h3 := lt_bl a
      have := Nat.pow_le_pow_right (n := 2) (by decide) (show bl a ≤ 32 * ys.length by omega)
      omega
    · have := D_bl b
      have h3 := lt_bl b
      have := Nat.pow_le_pow_right (n := 2) (by decide) (show bl b ≤ 32 * ys.length by omega)
      omega
def OrTo (a b : Nat) (m i : Nat) (ys : List Int) : Prop := ys.length = m ∧ (∀ j, j < i → ys.getD j 0 = bits .or .u32 ((D a).getD j 0) ((D b).getD j 0)) ∧ (∀ j, i ≤ j → ys.getD j 0 = (D a).getD j 0)
theorem OrTo.step {a b m i : Nat} {ys : List Int} (h : OrTo a b m i ys) (hi : i < m) : OrTo a b m (i + 1) (ys.set i (bits .or .u32 ((D a).getD i 0) ((D b).getD i 0))) := by
  obtain ⟨h1, h2, h3⟩ := h
  refine ⟨by simpa using h1, fun j hj => ?_, fun j hj => ?_⟩
  · by_cases e : j = i
    · subst e; rw [Dg.getD_set_eq (by omega)]
    · rw [Dg.getD_set_ne (by omega)]; exact h2 j (by omega)
  · rw [Dg.getD_set_ne (by omega)]; exact h3 j (by omega)
theorem or_zero (a j : Nat) : bits .or .u32 ((D a).getD j 0) 0 = (D a).getD j 0 := by
  have := (bits_nat .u32 32 (by decide) Po.wraps_u32 (a / 4294967296 ^ j % 4294967296) 0 (Nat.mod_lt _ (by decide)) (by decide)).2
  rw [D_getD]
  simpa using this
theorem OrTo.done {a b m : Nat} {ys : List Int} (h : OrTo a b m (D b).length ys) (hm : m = max (D a).length (D b).length) : Dig 4294967296 ys ∧ val 4294967296 ys = ((a ||| b : Nat) : Int) := by
  obtain ⟨h1, h2, h3⟩ := h
  refine or_list (by omega) fun j hj => ?_
  by_cases hjb : j < (D b).length
  · exact h2 j hjb
  · rw [h3 j (by omega), getD_ge (l := D b) (by omega), or_zero]
theorem nums_set {ys : List Int} {i : Nat} {x : Int} : (ys.map (Value.int .u32)).toArray.setIfInBounds i (.int .u32 x) = ((ys.set i x).map (Value.int .u32)).toArray := by
  simp [List.map_set]
end Go.Proofs.Ythanlckjfghnkaa.Mf
end
section
namespace Go.Proofs.Ythanlckjfghnkaa.Mg
end Go.Proofs.Ythanlckjfghnkaa.Mg
end
section
namespace Go.Proofs.Ythanlckjfghnkaa.Mh
end Go.Proofs.Ythanlckjfghnkaa.Mh
end
section
set_option linter.unusedVariables false
set_option linter.unusedSimpArgs false
namespace Go.Proofs.Ythanlckjfghnkaa.Mi
open Go.RowKit Go.Proofs.YthanlckjfghnkaaW.PrintWords Go.Proofs.Ythanlckjfghnkaa.PW Go.Proofs.Ythanlckjfghnkaa.Pc Go.Proofs.Ythanlckjfghnkaa.Ma Go.Proofs.Ythanlckjfghnkaa.Mb Go.Proofs.Ythanlckjfghnkaa.Mc Go.Proofs.Ythanlckjfghnkaa.Md Go.Proofs.Ythanlckjfghnkaa.Me Dg
open Pm (sgn)
set_option maxHeartbeats 800000 in
theorem cmp {w : World} {p q : Nat} {x y : Int} (hx : Z w p x) (hy : Z w q y) (h1 : bl x.natAbs ≤ 1073741823) (h2 : bl y.natAbs ≤ 1073741823) :
    Calls Try.prog 68 #[.pointer (some ⟨p, 0, none⟩), .pointer (some ⟨q, 0, none⟩)] w (Tells w (.int .i64 (sgn (x - y)))) := by
  obtain ⟨A, c, k0, k1, hm, hp⟩ := Z.open hx
  obtain ⟨B, d, j0, j1, hn, hq⟩ := Z.open hy
  have hC := fun (W : World) (hb : Below w.heap.size w W) => cCmp (hm.below hb) (hn.below hb) (by omega) (by omega)
  have hD := fun (W : World) (hb : Below w.heap.size w W) => cCmp (hn.below hb) (hm.below hb) (by omega) (by omega)
  by_cases hxn : x < 0 <;> by_cases hyn : y < 0
  · have e : sgn ((y.natAbs : Int) - x.natAbs) = sgn (x - y) := by congr 1; omega
    rw [e] at hD
    rw [show decide (x < 0) = true by simpa using hxn] at k0
    rw [show decide (y < 0) = true by simpa using hyn] at j0
    have HD := Lib.hid hD
    clear hC hD e hxn hyn h1 h2 hm hn hx hy
    go_enter Try.func68, Try.ntmps68
    go_wp2
    go_quiet ((go_at_call 94; exact Calls.quiet_of (HD.out _ (below_drawn _))))
    go_wp2
    go_ret
    exact ⟨rfl, _, rfl⟩
  · have e : sgn (x - y) = -1 := by unfold sgn; rw [if_pos (by omega)]
    rw [e]
    rw [show decide (x < 0) = true by simpa using hxn] at k0
    rw [show decide (y < 0) = false by simpa using hyn] at j0
    clear hC hD e hxn hyn h1 h2 hm hn hx hy
    go_enter Try.func68, Try.ntmps68
    go_wp2
    go_ret
    exact ⟨rfl, 0, rfl⟩
  · have e : sgn (x - y) = 1 := by unfold sgn; rw [if_neg (by omega), if_neg (by omega)]
    rw [e]
    rw [show decide (x < 0) = false by simpa using hxn] at k0
    rw [show decide (y < 0) = true by simpa using hyn] at j0
    clear hC hD e hxn hyn h1 h2 hm hn hx hy
    go_enter Try.func68, Try.ntmps68
    go_wp2
    go_ret
    exact ⟨rfl, 0, rfl⟩
  · have e : sgn ((x.natAbs : Int) - y.natAbs) = sgn (x - y) := by congr 1; omega
    rw [e] at hC
    rw [show decide (x < 0) = false by simpa using hxn] at k0
    rw [show decide (y < 0) = false by simpa using hyn] at j0
    have HC := Lib.hid hC
    clear hC hD e hxn hyn h1 h2 hm hn hx hy
    go_enter Try.func68, Try.ntmps68
    go_wp2
    go_quiet ((go_at_call 94; exact Calls.quiet_of (HC.out _ (below_drawn _))))
    go_wp2
    go_ret
    exact ⟨rfl, _, rfl⟩
def sv (n : Bool) (m : Nat) : Int := if n = true then -(m : Int) else m
theorem sv_abs (z : Int) : sv (decide (z < 0)) z.natAbs = z := natAbs_if z
set_option maxHeartbeats 1600000 in
theorem plus {w : World} {p q : Nat} {x : Int} {neg : Bool} {B : Option Addr} {d m : Nat} (hp : Blk w p) (hx : Z w q x) (hn : Mg w B d (D m)) (h1 : bl x.natAbs ≤ 536870912) (h2 : bl m ≤ 536870912) :
    Calls Try.prog 93 #[.pointer (some ⟨p, 0, none⟩), .pointer (some ⟨q, 0, none⟩), .bool neg, .slice B (D m).length d] w (Puts w p (x + sv neg m)) := by
  obtain ⟨A, c, k0, k1, hm, hq⟩ := Z.open hx
  have hadd := bl_add_le x.natAbs m
  have hA := fun (W : World) (hb : Below w.heap.size w W) => (cAdd (hm.below hb) (hn.below hb) (by omega) (by omega)).mono fun e w' h => GivesMg.of hb h
  have hC := fun (W : World) (hb : Below w.heap.size w W) => cCmp (hm.below hb) (hn.below hb) (by omega) (by omega)
  by_cases hs : decide (x < 0) = neg
  · -- one sign
    have e : (if neg = true then -((x.natAbs + m : Nat) : Int) else ((x.natAbs + m : Nat) : Int)) = x + sv neg m := by
      rw [← sv_abs x, hs]; unfold sv
      cases neg <;> simp <;> omega
    have hP := fun (w1 : World) (A' : Option Addr) (c' : Nat) h1 h2 => put_of (w1 := w1) (A := A') (c := c') (neg := neg) (n := x.natAbs + m) hp h1 h2 (by omega)
    rw [e] at hP
    rw [hs] at k0
    have HP := Lib.hid hP
    have HA := Lib.hid hA
    clear hA hC hP e hs hadd h1 h2 hm hn hx hp
    cases neg
    all_goals
      go_enter Try.func93, Try.ntmps93
      go_wp2_with fail
      refine (HA.out _ (Below.refl _ _)).mono ?_
      rintro e w1 ⟨A', c', rfl, hm', hb'⟩
      have HPM := Lib.hid (HP.out w1 A' c' hb' hm')
      clear hm' hb'
      go_wp2_with fail
      refine HPM.out.mono ?_
      rintro e w2 ⟨rfl, hz2, hg2⟩
      have HE := Lib.hid (show Puts w p _ _ w2 from ⟨rfl, hz2, hg2⟩)
      clear hz2 hg2
      go_wp2
      go_ret
      exact HE.out
  · have hneq : neg = !decide (x < 0) := by cases neg <;> cases h : decide (x < 0) <;> simp_all
    by_cases hge : m ≤ x.natAbs
    · have hS := fun (W : World) (hb : Below w.heap.size w W) => (cSub (hm.below hb) (hn.below hb) (by omega) hge).mono fun e w' h => GivesMg.of hb h
      have hmo := bl_mono (Nat.sub_le x.natAbs m)
      have e : (if decide (x < 0) = true then -((x.natAbs - m : Nat) : Int) else ((x.natAbs - m : Nat) : Int)) = x + sv neg m := by
        rw [hneq]; unfold sv
        by_cases h : x < 0 <;> simp [h] <;> omega
      have hP := fun (w1 : World) (A' : Option Addr) (c' : Nat) h1 h2 => put_of (w1 := w1) (A := A') (c := c') (neg := decide (x < 0)) (n := x.natAbs - m) hp h1 h2 (by omega)
      rw [e] at hP
      have es : sgn ((x.natAbs : Int) - m) = sgn ((x.natAbs - m : Nat) : Int) := by congr 1; omega
      have es0 : 0 ≤ sgn ((x.natAbs : Int) - m) := by unfold sgn; split <;> (try split) <;> omega
      have HP := Lib.hid hP
      have HS := Lib.hid hS
      have HC := Lib.hid hC
      clear hA hC hP hS e hs hadd h1 h2 hm hn hx hp es hmo hge
      generalize sgn ((x.natAbs : Int) - m) = sg at *
      rw [hneq] at *
      clear hneq
      generalize decide (x < 0) = b at *
      cases b
      all_goals
        go_enter Try.func93, Try.ntmps93
        go_wp2_with fail
        refine (HC.out _ (Below.refl _ _)).mono ?_
        rintro e w1 ⟨rfl, n, rfl⟩
        go_wp2_with fail
        go_region_with (first | (go_at_call 92; refine (HS.out _ (by first | exact below_drawn _ | exact (below_drawn _).drew)).mono ?_; rintro e w1 ⟨A', c', rfl, hm', hb'⟩; have HPM := Lib.hid (HP.out w1 A' c' hb' hm'); have k0' := (hb'.cell (p := ⟨q, 0, none⟩) hq).trans k0; clear hm' hb') | (go_at_call 62; refine HPM.out.mono ?_; rintro e w2 ⟨rfl, hz2, hg2⟩; have HE := Lib.hid (show Puts w p _ _ w2 from ⟨rfl, hz2, hg2⟩); clear hz2 hg2))
        all_goals go_wp2
        all_goals go_ret
        all_goals exact HE.out
    · have hS := fun (W : World) (hb : Below w.heap.size w W) => (cSub (hn.below hb) (hm.below hb) (by omega) (by omega)).mono fun e w' h => GivesMg.of hb h
      have hmo := bl_mono (Nat.sub_le m x.natAbs)
      have e : (if neg = true then -((m - x.natAbs : Nat) : Int) else ((m - x.natAbs : Nat) : Int)) = x + sv neg m := by
        rw [hneq]; unfold sv
        by_cases h : x < 0 <;> simp [h] <;> omega
      have hP := fun (w1 : World) (A' : Option Addr) (c' : Nat) h1 h2 => put_of (w1 := w1) (A := A') (c := c') (neg := neg) (n := m - x.natAbs) hp h1 h2 (by omega)
      rw [e] at hP
      have es : sgn ((x.natAbs : Int) - m) = -1 := by unfold sgn; rw [if_pos (by omega)]
      rw [es] at hC
      have HP := Lib.hid hP
      have HS := Lib.hid hS
      have HC := Lib.hid hC
      clear hA hC hP hS e hs hadd h1 h2 hm hn hx hp es hmo hge
      rw [hneq] at *
      clear hneq
      generalize decide (x < 0) = b at *
      cases b
      all_goals
        go_enter Try.func93, Try.ntmps93
        go_wp2_with fail
        refine (HC.out _ (Below.refl _ _)).mono ?_
        rintro e w1 ⟨rfl, n, rfl⟩
        go_wp2_with fail
        refine (HS.out _ (below_drawn _)).mono ?_
        rintro e w1 ⟨A', c', rfl, hm', hb'⟩
        have HPM := Lib.hid (HP.out w1 A' c' hb' hm')
        clear hm' hb'
        go_wp2_with fail
        refine HPM.out.mono ?_
        rintro e w2 ⟨rfl, hz2, hg2⟩
        have HE := Lib.hid (show Puts w p _ _ w2 from ⟨rfl, hz2, hg2⟩)
        clear hz2 hg2
        go_wp2
        go_ret
        exact HE.out
end Go.Proofs.Ythanlckjfghnkaa.Mi
end
section
set_option linter.unusedVariables false
set_option linter.unusedSimpArgs false
namespace Go.Proofs.Ythanlckjfghnkaa.Mj
open Go.RowKit Go.Proofs.YthanlckjfghnkaaW.PrintWords Go.Proofs.Ythanlckjfghnkaa.PW Go.Proofs.Ythanlckjfghnkaa.Pc Go.Proofs.Ythanlckjfghnkaa.Ma Go.Proofs.Ythanlckjfghnkaa.Mb Go.Proofs.Ythanlckjfghnkaa.Mc Go.Proofs.Ythanlckjfghnkaa.Md Go.Proofs.Ythanlckjfghnkaa.Me Go.Proofs.Ythanlckjfghnkaa.Mi Dg
open Pm (sgn)
theorem Puts.of {w W w' : World} {p : Nat} {z : Int} {e : Ending} (hb : Below w.heap.size w W) (h : Puts W p z e w') : Puts w p z e w' := Mc.Puts.below hb h
set_option maxHeartbeats 1600000 in
theorem add {w : World} {p q s : Nat} {x y : Int} (hp : Blk w p) (hx : Z w q x) (hy : Z w s y) (h1 : bl x.natAbs ≤ 536870912) (h2 : bl y.natAbs ≤ 536870912) :
    Calls Try.prog 67 #[.pointer (some ⟨p, 0, none⟩), .pointer (some ⟨q, 0, none⟩), .pointer (some ⟨s, 0, none⟩)] w (Puts w p (x + y)) := by
  obtain ⟨B, d, j0, j1, hn, hs⟩ := Z.open hy
  have hP := fun (W : World) (hb : Below w.heap.size w W) => (plus (neg := decide (y < 0)) (hp.below hb) (hx.below hb) (hn.below hb) h1 h2).mono fun e w' h => Puts.of hb h
  rw [sv_abs] at hP
  have HP := Lib.hid hP
  clear hP hn h1 h2 hp hx hy
  generalize decide (y < 0) = b at *
  go_enter Try.func67, Try.ntmps67
  go_wp2
  go_region_with (go_at_call 93; refine (HP.out _ (by first | exact Below.refl _ _ | exact (Below.refl _ _).drew)).mono ?_; rintro e w2 ⟨rfl, hz2, hg2⟩; have HE := Lib.hid (show Puts w p (x + y) _ w2 from ⟨rfl, hz2, hg2⟩); clear hz2 hg2)
  all_goals go_wp2
  all_goals go_ret
  all_goals exact HE.out
end Go.Proofs.Ythanlckjfghnkaa.Mj
end
section
set_option linter.unusedVariables false
set_option linter.unusedSimpArgs false
namespace Go.Proofs.Ythanlckjfghnkaa.Mk
open Go.RowKit Go.Proofs.YthanlckjfghnkaaW.PrintWords Go.Proofs.Ythanlckjfghnkaa.PW Go.Proofs.Ythanlckjfghnkaa.Pc Go.Proofs.Ythanlckjfghnkaa.Ma Go.Proofs.Ythanlckjfghnkaa.Mb Go.Proofs.Ythanlckjfghnkaa.Mc Go.Proofs.Ythanlckjfghnkaa.Md Go.Proofs.Ythanlckjfghnkaa.Me Go.Proofs.Ythanlckjfghnkaa.Mi Go.Proofs.Ythanlckjfghnkaa.Mj Dg
open Pm (sgn)
def lw (n k : Nat) : Int := val 4294967296 (((D n).take 2).drop k)
theorem lw_zero (n : Nat) : lw n 0 = ((n % 18446744073709551616 : Nat) : Int) := by
  unfold lw
  rw [List.drop_zero]
  have := (val_div_mod (by decide) (D_dig n) 2).2
  rw [D_val] at this
  rw [← this]
  rfl
theorem lw_end (n k : Nat) (h : 2 ≤ k ∨ (D n).length ≤ k) : lw n k = 0 := by
  unfold lw
  rw [List.drop_of_length_le (by simp; omega)]
  rfl
theorem lw_bd (n k : Nat) (h : 0 < k) : 0 ≤ lw n k ∧ lw n k < 4294967296 := by
  unfold lw
  have hd := ((D_dig n).take 2).drop k
  have h1 := val_nonneg hd
  have h2 := val_lt (by decide) hd
  refine ⟨h1, ?_⟩
  have h3 : (((D n).take 2).drop k).length ≤ 1 := by simp; omega
  have h4 : ((4294967296 : Nat) : Int) ^ (((D n).take 2).drop k).length ≤ 4294967296 := by
    rcases Nat.lt_or_ge (((D n).take 2).drop k).length 1 with h | h
    · have : (((D n).take 2).drop k).length = 0 := by omega
      rw [this]; decide
    · have : (((D n).take 2).drop k).length = 1 := by omega
      rw [this]; decide
  omega
theorem lw_step (n k : Nat) (h : k < 2) (hk : k < (D n).length) : bits .or .u64 (IntKind.u64.wrap (lw n (k + 1) * 4294967296)) ((D n).getD k 0) = lw n k := by
  have hb := lw_bd n (k + 1) (by omega)
  have hd := (D_dig n).all0 (by decide) k
  have e : lw n k = (D n).getD k 0 + 4294967296 * lw n (k + 1) := by
    unfold lw
    have := val_drop' (B := 4294967296) ((D n).take 2) k
    rw [this]
    congr 1
    simp [List.getD, List.getElem?_take, h]
  rw [Pn.u64_id (by omega) (by omega), e]
  have := Po.or_high (x := (D n).getD k 0) (y := lw n (k + 1)) hd.1 (by omega) hb.1 hb.2
  rw [← this]
  obtain ⟨a, ha⟩ := Int.eq_ofNat_of_zero_le hd.1
  obtain ⟨b, hb'⟩ := Int.eq_ofNat_of_zero_le hb.1
  have hd2 : a < 4294967296 := by have := hd.2; omega
  have hb2 : b < 4294967296 := by have := hb.2; omega
  rw [ha, hb']
  have e2 : (b : Int) * 4294967296 = ((b * 4294967296 : Nat) : Int) := by simp
  have h1 : a < 2 ^ 64 := by omega
  have h2 : b * 4294967296 < 2 ^ 64 := by omega
  rw [e2, (bits_nat .u64 64 (by decide) Po.wraps_u64 _ _ h2 h1).2, (bits_nat .u64 64 (by decide) Po.wraps_u64 _ _ h1 h2).2, Nat.or_comm]
set_option maxHeartbeats 1600000 in
theorem low {w : World} {q : Nat} {z : Int} (hz : Z w q z) : Calls Try.prog 97 #[.pointer (some ⟨q, 0, none⟩)] w fun e w' => e = .returned (.int .u64 ((z.natAbs % 18446744073709551616 : Nat) : Int)) ∧ w = w' := by
  obtain ⟨A, c, k0, k1, hm, hq⟩ := Z.open hz
  have hres := lw_zero z.natAbs
  have hcell : ∀ k, k < (D z.natAbs).length → ∃ ad, A = some ad ∧ w.cell? (ad.add k) = some (.int .u32 ((D z.natAbs).getD k 0)) := fun k hk => by
    obtain ⟨ad, hA, hc⟩ := Kd.at_int hm.1 (k : Int) (by omega) (by omega)
    rw [Int.toNat_natCast, rdN] at hc
    exact ⟨ad, hA, hc⟩
  have hmax : (D z.natAbs).length ≤ 9223372036854775807 := hm.1.2.1
  have hst := fun k h1 h2 => lw_step z.natAbs k h1 h2
  have hen := fun k h => lw_end z.natAbs k h
  have hdd := (D_dig z.natAbs).all0 (by decide)
  have hlb := fun k h => lw_bd z.natAbs k h
  have HR := Lib.hid hres
  have HC := Lib.hid hcell
  have HS := Lib.hid hst
  have HE := Lib.hid hen
  have HD := Lib.hid hdd
  have HLB := Lib.hid hlb
  clear hres hcell hm hz hst hen hdd hlb
  generalize hln : (D z.natAbs).length = n at *
  clear hln
  obtain ⟨m, hm2, hmn, hmm⟩ : ∃ m : Nat, m ≤ 2 ∧ m ≤ n ∧ (2 ≤ m ∨ n ≤ m) := ⟨min n 2, by omega, by omega, by omega⟩
  have hst0 : lw z.natAbs m = 0 := HE.out m hmm
  have HST := Lib.hid hst0
  clear hst0
  by_cases hlt : n < 2
  · obtain rfl : n = m := by omega
    go_enter Try.func97, Try.ntmps97
    go_wp2_with fail
    go_loop [3, 4] (fun u i => ∃ k : Nat, k ≤ n ∧ i = .int .i64 ((k : Int) - 1) ∧ u = .int .u64 (lw z.natAbs k)) (fun _ i => (intOf i + 1).toNat)
    case atStart => exact ⟨n, Nat.le_refl _, rfl, by rw [HST.out]⟩
    case round =>
      obtain ⟨k, hk, rfl, rfl⟩ := hrel
      cases k with
      | zero =>
        have e : ((0 : Nat) : Int) - 1 = -1 := rfl
        rw [e]
        go_wp2
        go_ret
        exact ⟨by show Ending.returned (Value.int .u64 (lw z.natAbs 0)) = _; rw [HR.out]; simp, rfl⟩
      | succ k =>
        have e : ((k + 1 : Nat) : Int) - 1 = (k : Int) := by omega
        rw [e]
        clear e
        obtain ⟨ad, hA, hc⟩ := HC.out k (by omega)
        subst hA
        have hs := Lib.hid (HS.out k (by omega) (by omega))
        have hd := HD.out k
        have hb := HLB.out (k + 1) (by omega)
        have hx := Pn.u64_id (n := lw z.natAbs (k + 1) * 4294967296) (by omega) (by omega)
        have hs2 := hs.out
        rw [hx] at hs2
        have HS2 := Lib.hid hs2
        clear hs hs2 hx
        generalize hl1 : lw z.natAbs (k + 1) = l1 at *
        generalize hd1 : (D z.natAbs).getD k 0 = d1 at *
        clear hl1 hd1
        go_wp2
        go_round
        case rel => exact ⟨k, by omega, rfl, by rw [HS2.out]⟩
        case measure => (simp [intOf]) <;> omega
  · obtain rfl : m = 2 := by omega
    by_cases hn2 : n = 2
    · subst hn2
      go_enter Try.func97, Try.ntmps97
      go_wp2_with fail
      go_loop [3, 4] (fun u i => ∃ k : Nat, k ≤ 2 ∧ i = .int .i64 ((k : Int) - 1) ∧ u = .int .u64 (lw z.natAbs k)) (fun _ i => (intOf i + 1).toNat)
      case atStart => exact ⟨2, Nat.le_refl _, rfl, by rw [HST.out]⟩
      case round =>
        obtain ⟨k, hk, rfl, rfl⟩ := hrel
        cases k with
        | zero =>
          have e : ((0 : Nat) : Int) - 1 = -1 := rfl
          rw [e]
          go_wp2
          go_ret
          exact ⟨by show Ending.returned (Value.int .u64 (lw z.natAbs 0)) = _; rw [HR.out]; simp, rfl⟩
        | succ k =>
          have e : ((k + 1 : Nat) : Int) - 1 = (k : Int) := by omega
          rw [e]
          clear e
          obtain ⟨ad, hA, hc⟩ := HC.out k (by omega)
          subst hA
          have hs := Lib.hid (HS.out k (by omega) (by omega))
          have hd := HD.out k
          have hb := HLB.out (k + 1) (by omega)
          have hx := Pn.u64_id (n := lw z.natAbs (k + 1) * 4294967296) (by omega) (by omega)
          have hs2 := hs.out
          rw [hx] at hs2
          have HS2 := Lib.hid hs2
          clear hs hs2 hx
          generalize hl1 : lw z.natAbs (k + 1) = l1 at *
          generalize hd1 : (D z.natAbs).getD k 0 = d1 at *
          clear hl1 hd1
          go_wp2
          go_round
          case rel => exact ⟨k, by omega, rfl, by rw [HS2.out]⟩
          case measure => (simp [intOf]) <;> omega

    · have hn3 : 2 < n := by omega
      clear hlt
      go_enter Try.func97, Try.ntmps97
      go_wp2_with fail
      go_loop [3, 4] (fun u i => ∃ k : Nat, k ≤ 2 ∧ i = .int .i64 ((k : Int) - 1) ∧ u = .int .u64 (lw z.natAbs k)) (fun _ i => (intOf i + 1).toNat)
      case atStart => exact ⟨2, Nat.le_refl _, rfl, by rw [HST.out]⟩
      case round =>
        obtain ⟨k, hk, rfl, rfl⟩ := hrel
        cases k with
        | zero =>
          have e : ((0 : Nat) : Int) - 1 = -1 := rfl
          rw [e]
          go_wp2
          go_ret
          exact ⟨by show Ending.returned (Value.int .u64 (lw z.natAbs 0)) = _; rw [HR.out]; simp, rfl⟩
        | succ k =>
          have e : ((k + 1 : Nat) : Int) - 1 = (k : Int) := by omega
          rw [e]
          clear e
          obtain ⟨ad, hA, hc⟩ := HC.out k (by omega)
          subst hA
          have hs := Lib.hid (HS.out k (by omega) (by omega))
          have hd := HD.out k
          have hb := HLB.out (k + 1) (by omega)
          have hx := Pn.u64_id (n := lw z.natAbs (k + 1) * 4294967296) (by omega) (by omega)
          have hs2 := hs.out
          rw [hx] at hs2
          have HS2 := Lib.hid hs2
          clear hs hs2 hx
          generalize hl1 : lw z.natAbs (k + 1) = l1 at *
          generalize hd1 : (D z.natAbs).getD k 0 = d1 at *
          clear hl1 hd1
          go_wp2
          go_round
          case rel => exact ⟨k, by omega, rfl, by rw [HS2.out]⟩
          case measure => (simp [intOf]) <;> omega
theorem natAbs_mod {z : Int} (h0 : -9223372036854775808 ≤ z) (h1 : z ≤ 9223372036854775807) : ((z.natAbs % 18446744073709551616 : Nat) : Int) = z.natAbs := by omega
set_option maxHeartbeats 800000 in
theorem int64 {w : World} {q : Nat} {z : Int} (hz : Z w q z) (h0 : -9223372036854775808 ≤ z) (h1 : z ≤ 9223372036854775807) : Calls Try.prog 80 #[.pointer (some ⟨q, 0, none⟩)] w fun e w' => e = .returned (.int .i64 z) ∧ w = w' := by
  obtain ⟨A, c, k0, k1, hm, hq⟩ := Z.open hz
  have hl := low hz
  rw [natAbs_mod h0 h1] at hl
  have HL := Lib.hid hl
  clear hl hm hz
  by_cases hn : z < 0
  · have e : IntKind.i64.wrap (-(IntKind.i64.wrap (z.natAbs : Int))) = z := by rw [IntKind.wrap_i64, IntKind.wrap_i64]; omega
    have e2 : wrap64 (-(wrap64 (z.natAbs : Int))) = z := by unfold wrap64; omega
    rw [show decide (z < 0) = true by simpa using hn] at k0
    have E := Lib.hid e2
    clear e e2 h0 h1 hn
    generalize (z.natAbs : Int) = a at *
    go_enter Try.func80, Try.ntmps80
    go_wp2_with fail
    refine HL.out.mono ?_
    rintro e w1 ⟨rfl, rfl⟩
    go_wp2
    go_ret
    exact ⟨by rw [← E.out]; rfl, rfl⟩
  · have e2 : wrap64 (z.natAbs : Int) = z := by unfold wrap64; omega
    rw [show decide (z < 0) = false by simpa using hn] at k0
    have E := Lib.hid e2
    clear e2 h0 h1 hn
    generalize (z.natAbs : Int) = a at *
    go_enter Try.func80, Try.ntmps80
    go_wp2_with fail
    refine HL.out.mono ?_
    rintro e w1 ⟨rfl, rfl⟩
    go_wp2
    go_ret
    exact ⟨by rw [← E.out]; rfl, rfl⟩
end Go.Proofs.Ythanlckjfghnkaa.Mk
end
section
set_option linter.unusedVariables false
set_option linter.unusedSimpArgs false
namespace Go.Proofs.Ythanlckjfghnkaa.Ml
open Go.RowKit Go.Proofs.YthanlckjfghnkaaW.PrintWords Go.Proofs.YthanlckjfghnkaaW.PrintLast Go.Proofs.YthanlckjfghnkaaW.PrintMore Go.Proofs.Ythanlckjfghnkaa.PW Go.Proofs.Ythanlckjfghnkaa.Pc Go.Proofs.Ythanlckjfghnkaa.Ma Go.Proofs.Ythanlckjfghnkaa.Mb Go.Proofs.Ythanlckjfghnkaa.Mc Go.Proofs.Ythanlckjfghnkaa.Md Go.Proofs.Ythanlckjfghnkaa.Me Go.Proofs.Ythanlckjfghnkaa.Mi Go.Proofs.Ythanlckjfghnkaa.Mj Go.Proofs.Ythanlckjfghnkaa.Mk Dg
theorem D_and (a b i : Nat) : (D (a &&& b)).getD i 0 = (((a / 4294967296 ^ i % 4294967296) &&& (b / 4294967296 ^ i % 4294967296) : Nat) : Int) := by
  rw [D_getD]
  congr 1
  rw [show (4294967296 : Nat) = 2 ^ 32 from rfl, ← Nat.pow_mul]
  have h1 : (a &&& b) / 2 ^ (32 * i) = a / 2 ^ (32 * i) &&& b / 2 ^ (32 * i) := by
    rw [← Nat.shiftRight_eq_div_pow, ← Nat.shiftRight_eq_div_pow, ← Nat.shiftRight_eq_div_pow, Nat.shiftRight_and_distrib]
  rw [h1, Nat.and_mod_two_pow]
def andl (a b k : Nat) : List Int := (List.range k).map fun j => bits .and .u32 ((D a).getD j 0) ((D b).getD j 0)
theorem andl_len (a b k : Nat) : (andl a b k).length = k := by unfold andl; simp
theorem andl_succ (a b k : Nat) : andl a b (k + 1) = andl a b k ++ [bits .and .u32 ((D a).getD k 0) ((D b).getD k 0)] := by unfold andl; rw [List.range_succ, List.map_append]; rfl
theorem and_digit (a b j : Nat) : bits .and .u32 ((D a).getD j 0) ((D b).getD j 0) = (((a &&& b) / 4294967296 ^ j % 4294967296 : Nat) : Int) := by
  rw [← D_getD, D_and, D_getD, D_getD]
  exact (bits_nat .u32 32 (by decide) Po.wraps_u32 _ _ (Nat.mod_lt _ (by decide)) (Nat.mod_lt _ (by decide))).1
theorem andl_done (a b m : Nat) (hm : (D a).length ≤ m ∨ (D b).length ≤ m) : Dig 4294967296 (andl a b m) ∧ val 4294967296 (andl a b m) = ((a &&& b : Nat) : Int) := by
  have h2 : ∀ j, j < (andl a b m).length → (andl a b m).getD j 0 = (((a &&& b) / 4294967296 ^ j % 4294967296 : Nat) : Int) := by
    intro j hj
    rw [andl_len] at hj
    rw [← and_digit]
    unfold andl
    simp [List.getD, hj]
  constructor
  · exact dig_of_getD fun j hj => by rw [h2 j hj]; have := Nat.mod_lt ((a &&& b) / 4294967296 ^ j) (show 0 < 4294967296 by decide); omega
  · rw [val_digits (by decide) _ (a &&& b) h2, andl_len]
    congr 1
    apply Nat.mod_eq_of_lt
    have e : (4294967296 : Nat) = 2 ^ 32 := rfl
    rw [e, ← Nat.pow_mul]
    rcases hm with h | h
    · refine Nat.lt_of_le_of_lt Nat.and_le_left (Nat.lt_of_lt_of_le (lt_bl a) (Nat.pow_le_pow_right (by decide) ?_))
      have := D_bl a
      omega
    · refine Nat.lt_of_le_of_lt Nat.and_le_right (Nat.lt_of_lt_of_le (lt_bl b) (Nat.pow_le_pow_right (by decide) ?_))
      have := D_bl b
      omega
set_option maxHeartbeats 1600000 in
set_option maxRecDepth 100000 in
theorem andd {w : World} {p q s : Nat} {x y : Int} (hp : Blk w p) (hx : Z w q x) (hy : Z w s y) (h1 : bl x.natAbs ≤ 536870912) (h2 : bl y.natAbs ≤ 536870912) :
    Calls Try.prog 79 #[.pointer (some ⟨p, 0, none⟩), .pointer (some ⟨q, 0, none⟩), .pointer (some ⟨s, 0, none⟩)] w (Puts w p ((x.natAbs &&& y.natAbs : Nat) : Int)) := by
  obtain ⟨A, c, k0, k1, hm, hq⟩ := Z.open hx
  obtain ⟨B, d, j0, j1, hn, hs⟩ := Z.open hy
  have hl1 := D_len x.natAbs
  have hl2 := D_len y.natAbs
  have hca : ∀ (k : Nat) (wr : World), k < (D x.natAbs).length → Below w.heap.size w wr → ∃ ad, A = some ad ∧ wr.cell? (ad.add k) = some (.int .u32 ((D x.natAbs).getD k 0)) := fun k wr hk hb => by
    obtain ⟨ad, hA, hc⟩ := Kd.at_int hm.1 (k : Int) (by omega) (by omega)
    rw [Int.toNat_natCast, rdN] at hc
    exact ⟨ad, hA, (hb.cell (World.block_lt_of_cell? w _ hc)).trans hc⟩
  have hcb : ∀ (k : Nat) (wr : World), k < (D y.natAbs).length → Below w.heap.size w wr → ∃ ad, B = some ad ∧ wr.cell? (ad.add k) = some (.int .u32 ((D y.natAbs).getD k 0)) := fun k wr hk hb => by
    obtain ⟨ad, hA, hc⟩ := Kd.at_int hn.1 (k : Int) (by omega) (by omega)
    rw [Int.toNat_natCast, rdN] at hc
    exact ⟨ad, hA, (hb.cell (World.block_lt_of_cell? w _ hc)).trans hc⟩
  have hcc : ∀ wr, Below w.heap.size w wr → (wr.cell? ⟨q, 1, none⟩ = some (.slice A (D x.natAbs).length c) ∧ wr.cell? ⟨s, 1, none⟩ = some (.slice B (D y.natAbs).length d)) := fun wr hb =>
    ⟨(hb.cell (p := ⟨q, 1, none⟩) hq).trans k1, (hb.cell (p := ⟨s, 1, none⟩) hs).trans j1⟩
  have hfin : ∀ (m : Nat) (v : Value) (wr : World), ((D x.natAbs).length ≤ m ∨ (D y.natAbs).length ≤ m) → m ≤ 536870912 → Kd.R (Kd.int .u32) 94 wr w.heap.size (fun _ => True) v (andl x.natAbs y.natAbs m) → Below w.heap.size w wr →
      Calls Try.prog 62 #[.pointer (some ⟨p, 0, none⟩), .bool false, v] wr (Puts w p ((x.natAbs &&& y.natAbs : Nat) : Int)) := by
    intro m v wr hmm hm2 hR hb
    obtain ⟨A', c', rfl⟩ := Kd.R_slice hR
    have hr := Kd.R_reads' hR
    obtain ⟨hd, hv⟩ := andl_done _ _ _ hmm
    have := put (neg := false) (hp.below hb) (xs := andl x.natAbs y.natAbs m) ⟨hr.2.2, hr.2.1⟩ hd (by rw [andl_len]; omega)
    refine this.mono fun e w' h => ?_
    rw [hv] at h
    exact Mc.Puts.below hb h
  have HF := Lib.hid hfin
  have HCA := Lib.hid hca
  have HCB := Lib.hid hcb
  have HCC := Lib.hid hcc
  clear hfin hca hcb hcc hp hx hy hm hn
  generalize hla : (D x.natAbs).length = la at *
  generalize hlb : (D y.natAbs).length = lb at *
  clear hla hlb
  obtain ⟨m, hm1, hm2, hm3⟩ : ∃ m : Nat, m ≤ la ∧ m ≤ lb ∧ (la ≤ m ∨ lb ≤ m) := ⟨min la lb, by omega, by omega, by omega⟩
  have HM3 := Lib.hid hm3
  have HB := Aside0.mk (Below.refl w.heap.size w)
  have Ny0 := Aside0.mk (show ([] : List Int) = andl x.natAbs y.natAbs 0 from rfl)
  have hl1' : la ≤ 536870912 := by omega
  have hl2' : lb ≤ 536870912 := by omega
  clear hl1 hl2 h1 h2
  by_cases hlt : la < lb
  · obtain rfl : la = m := by omega
    clear hm1 hm3
    go_enter Try.func79, Try.ntmps79
    go_wp2_with ((with_reducible refine gate_dst (N := 9) rfl ?_); refine Kd.R_lit (Kd.int .u32) _ 94 ?hg (N := 9) ?hd (xs := ([] : List Int)) (inner := []) (ok := fun _ => True) (okp := fun _ => True) ?hr ?hp (fun _ hk => hk) trivial (Below.refl _ _) (Nat.le_refl _) (by simp) ?_; (case hd => rfl); (case hg => rfl); (case hr => first | (go_simp; done) | (go_simp; rfl)); (case hp => exact (Reps.none _ _)); intro v168 w3 ho4 hb hg_ hnew_; clear hg_ hnew_; rw [Ny0.out] at ho4; have n0_ := Aside0.mk (Kd.R_lower ho4 (Nat.le_refl _)); have n1_ := Aside0.mk hb; clear HB; have HO := n0_; have HB := n1_; obtain ⟨cx, cy⟩ := HCC.out w3 hb; clear n0_ n1_; clear hb ho4)
    go_region
    go_wp2_with fail
    go_loopw [7, 21] (fun v i wr => ∃ k : Nat, i = .int .i64 k ∧ k ≤ la ∧ Aside0 (Kd.R (Kd.int .u32) 94 wr w.heap.size (fun _ => True) v (andl x.natAbs y.natAbs k)) ∧ Aside0 (Below w.heap.size w wr)) (fun _ i _ => la - (intOf i).toNat)
    case atStart => exact ⟨0, rfl, by omega, ⟨by (with_reducible repeat (first | apply Kd.R_alloc | apply Kd.R_drewN | apply Kd.R_drew)); exact HO.out⟩, ⟨HB.out.drew⟩⟩
    case round =>
      clear HO HB cx cy
      obtain ⟨k, rfl, hk, HO, HB⟩ := hrel
      obtain ⟨cx, cy⟩ := HCC.out wr HB.out
      by_cases hkm : k < la
      · obtain ⟨ad, hA, ca⟩ := HCA.out k wr (by omega) HB.out
        obtain ⟨bd, hB, cb⟩ := HCB.out k wr (by omega) HB.out
        subst hA
        subst hB
        have HS := Aside0.mk (andl_succ x.natAbs y.natAbs k).symm
        have HLN := Aside0.mk (show ((andl x.natAbs y.natAbs k).length + 1) * 4 ≤ 140737488355328 by rw [andl_len]; omega)
        have hka : (k : Int) < (la : Int) := by omega
        have hkb : (k : Int) < (lb : Int) := by omega
        generalize (D x.natAbs).getD k 0 = u at *
        generalize (D y.natAbs).getD k 0 = v at *
        go_wp2_with fail
        go_region_law (refine Kd.R_append_step (Kd.int .u32) (w0 := w) w.heap.size (by rfl) (.tmp 24) (.tmp 40) 55 94 (.int .u32 0) 4 rfl Try.underlying55 infoU rfl (by decide) (by omega) _ (andl x.natAbs y.natAbs k) (bits .and .u32 u v) [.int .u32 (bits .and .u32 u v)] (fun _ => True) (fun _ => False) rfl rfl rfl (fun _ hk => hk.elim) (fun _ _ => trivial) (Kd.R_drew HO.out) HB.out.drew HB.out.size HLN.out ?_; intro v1 w1 ho hb hg hat; rw [HS.out] at ho; have HO1 := Aside0.mk ho; have HB1 := Aside0.mk hb; clear ho hb hg hat HO HB)
        all_goals go_wp2
        all_goals go_roundw
        all_goals first | exact ⟨k + 1, by go_num, by omega, HO1, HB1⟩ | ((simp [intOf]) <;> omega)
      · obtain rfl : la = k := by omega
        have HC := Lib.hid (HF.out la _ wr HM3.out (by omega) HO.out HB.out)
        clear HO HB
        go_wp2_with (go_at_call 62; refine HC.out.mono ?_; rintro e w2 ⟨rfl, hz2, hg2⟩; have HE := Lib.hid (show Puts w p ((x.natAbs &&& y.natAbs : Nat) : Int) _ w2 from ⟨rfl, hz2, hg2⟩); clear hz2 hg2)
        go_ret
        exact HE.out
  · by_cases hlt2 : lb < la
    · obtain rfl : lb = m := by omega
      clear hm1 hm3
      go_enter Try.func79, Try.ntmps79
      go_wp2_with ((with_reducible refine gate_dst (N := 9) rfl ?_); refine Kd.R_lit (Kd.int .u32) _ 94 ?hg (N := 9) ?hd (xs := ([] : List Int)) (inner := []) (ok := fun _ => True) (okp := fun _ => True) ?hr ?hp (fun _ hk => hk) trivial (Below.refl _ _) (Nat.le_refl _) (by simp) ?_; (case hd => rfl); (case hg => rfl); (case hr => first | (go_simp; done) | (go_simp; rfl)); (case hp => exact (Reps.none _ _)); intro v168 w3 ho4 hb hg_ hnew_; clear hg_ hnew_; rw [Ny0.out] at ho4; have n0_ := Aside0.mk (Kd.R_lower ho4 (Nat.le_refl _)); have n1_ := Aside0.mk hb; clear HB; have HO := n0_; have HB := n1_; obtain ⟨cx, cy⟩ := HCC.out w3 hb; clear n0_ n1_; clear hb ho4)
      go_region
      go_wp2_with fail
      go_loopw [7, 21] (fun v i wr => ∃ k : Nat, i = .int .i64 k ∧ k ≤ lb ∧ Aside0 (Kd.R (Kd.int .u32) 94 wr w.heap.size (fun _ => True) v (andl x.natAbs y.natAbs k)) ∧ Aside0 (Below w.heap.size w wr)) (fun _ i _ => lb - (intOf i).toNat)
      case atStart => exact ⟨0, rfl, by omega, ⟨by (with_reducible repeat (first | apply Kd.R_alloc | apply Kd.R_drewN | apply Kd.R_drew)); exact HO.out⟩, ⟨HB.out.drew⟩⟩
      case round =>
        clear HO HB cx cy
        obtain ⟨k, rfl, hk, HO, HB⟩ := hrel
        obtain ⟨cx, cy⟩ := HCC.out wr HB.out
        by_cases hkm : k < lb
        · obtain ⟨ad, hA, ca⟩ := HCA.out k wr (by omega) HB.out
          obtain ⟨bd, hB, cb⟩ := HCB.out k wr (by omega) HB.out
          subst hA
          subst hB
          have HS := Aside0.mk (andl_succ x.natAbs y.natAbs k).symm
          have HLN := Aside0.mk (show ((andl x.natAbs y.natAbs k).length + 1) * 4 ≤ 140737488355328 by rw [andl_len]; omega)
          have hka : (k : Int) < (la : Int) := by omega
          have hkb : (k : Int) < (lb : Int) := by omega
          generalize (D x.natAbs).getD k 0 = u at *
          generalize (D y.natAbs).getD k 0 = v at *
          go_wp2_with fail
          go_region_law (refine Kd.R_append_step (Kd.int .u32) (w0 := w) w.heap.size (by rfl) (.tmp 24) (.tmp 40) 55 94 (.int .u32 0) 4 rfl Try.underlying55 infoU rfl (by decide) (by omega) _ (andl x.natAbs y.natAbs k) (bits .and .u32 u v) [.int .u32 (bits .and .u32 u v)] (fun _ => True) (fun _ => False) rfl rfl rfl (fun _ hk => hk.elim) (fun _ _ => trivial) (Kd.R_drew HO.out) HB.out.drew HB.out.size HLN.out ?_; intro v1 w1 ho hb hg hat; rw [HS.out] at ho; have HO1 := Aside0.mk ho; have HB1 := Aside0.mk hb; clear ho hb hg hat HO HB)
          all_goals go_wp2
          all_goals go_roundw
          all_goals first | exact ⟨k + 1, by go_num, by omega, HO1, HB1⟩ | ((simp [intOf]) <;> omega)
        · obtain rfl : lb = k := by omega
          have HC := Lib.hid (HF.out lb _ wr HM3.out (by omega) HO.out HB.out)
          clear HO HB
          go_wp2_with (go_at_call 62; refine HC.out.mono ?_; rintro e w2 ⟨rfl, hz2, hg2⟩; have HE := Lib.hid (show Puts w p ((x.natAbs &&& y.natAbs : Nat) : Int) _ w2 from ⟨rfl, hz2, hg2⟩); clear hz2 hg2)
          go_ret
          exact HE.out

    · obtain rfl : la = lb := by omega
      obtain rfl : la = m := by omega
      clear hm1 hm3
      go_enter Try.func79, Try.ntmps79
      go_wp2_with ((with_reducible refine gate_dst (N := 9) rfl ?_); refine Kd.R_lit (Kd.int .u32) _ 94 ?hg (N := 9) ?hd (xs := ([] : List Int)) (inner := []) (ok := fun _ => True) (okp := fun _ => True) ?hr ?hp (fun _ hk => hk) trivial (Below.refl _ _) (Nat.le_refl _) (by simp) ?_; (case hd => rfl); (case hg => rfl); (case hr => first | (go_simp; done) | (go_simp; rfl)); (case hp => exact (Reps.none _ _)); intro v168 w3 ho4 hb hg_ hnew_; clear hg_ hnew_; rw [Ny0.out] at ho4; have n0_ := Aside0.mk (Kd.R_lower ho4 (Nat.le_refl _)); have n1_ := Aside0.mk hb; clear HB; have HO := n0_; have HB := n1_; obtain ⟨cx, cy⟩ := HCC.out w3 hb; clear n0_ n1_; clear hb ho4)
      go_region
      go_wp2_with fail
      go_loopw [7, 21] (fun v i wr => ∃ k : Nat, i = .int .i64 k ∧ k ≤ la ∧ Aside0 (Kd.R (Kd.int .u32) 94 wr w.heap.size (fun _ => True) v (andl x.natAbs y.natAbs k)) ∧ Aside0 (Below w.heap.size w wr)) (fun _ i _ => la - (intOf i).toNat)
      case atStart => exact ⟨0, rfl, by omega, ⟨by (with_reducible repeat (first | apply Kd.R_alloc | apply Kd.R_drewN | apply Kd.R_drew)); exact HO.out⟩, ⟨HB.out.drew⟩⟩
      case round =>
        clear HO HB cx cy
        obtain ⟨k, rfl, hk, HO, HB⟩ := hrel
        obtain ⟨cx, cy⟩ := HCC.out wr HB.out
        by_cases hkm : k < la
        · obtain ⟨ad, hA, ca⟩ := HCA.out k wr (by omega) HB.out
          obtain ⟨bd, hB, cb⟩ := HCB.out k wr (by omega) HB.out
          subst hA
          subst hB
          have HS := Aside0.mk (andl_succ x.natAbs y.natAbs k).symm
          have HLN := Aside0.mk (show ((andl x.natAbs y.natAbs k).length + 1) * 4 ≤ 140737488355328 by rw [andl_len]; omega)
          have hka : (k : Int) < (la : Int) := by omega
          have hkb : (k : Int) < (la : Int) := by omega
          generalize (D x.natAbs).getD k 0 = u at *
          generalize (D y.natAbs).getD k 0 = v at *
          go_wp2_with fail
          go_region_law (refine Kd.R_append_step (Kd.int .u32) (w0 := w) w.heap.size (by rfl) (.tmp 24) (.tmp 40) 55 94 (.int .u32 0) 4 rfl Try.underlying55 infoU rfl (by decide) (by omega) _ (andl x.natAbs y.natAbs k) (bits .and .u32 u v) [.int .u32 (bits .and .u32 u v)] (fun _ => True) (fun _ => False) rfl rfl rfl (fun _ hk => hk.elim) (fun _ _ => trivial) (Kd.R_drew HO.out) HB.out.drew HB.out.size HLN.out ?_; intro v1 w1 ho hb hg hat; rw [HS.out] at ho; have HO1 := Aside0.mk ho; have HB1 := Aside0.mk hb; clear ho hb hg hat HO HB)
          all_goals go_wp2
          all_goals go_roundw
          all_goals first | exact ⟨k + 1, by go_num, by omega, HO1, HB1⟩ | ((simp [intOf]) <;> omega)
        · obtain rfl : la = k := by omega
          have HC := Lib.hid (HF.out la _ wr HM3.out (by omega) HO.out HB.out)
          clear HO HB
          go_wp2_with (go_at_call 62; refine HC.out.mono ?_; rintro e w2 ⟨rfl, hz2, hg2⟩; have HE := Lib.hid (show Puts w p ((x.natAbs &&& y.natAbs : Nat) : Int) _ w2 from ⟨rfl, hz2, hg2⟩); clear hz2 hg2)
          go_ret
          exact HE.out
end Go.Proofs.Ythanlckjfghnkaa.Ml
end
section
set_option linter.unusedVariables false
set_option linter.unusedSimpArgs false
namespace Go.Proofs.Ythanlckjfghnkaa.Mn
open Go.RowKit Go.Proofs.YthanlckjfghnkaaW.PrintWords Go.Proofs.YthanlckjfghnkaaW.PrintLast Go.Proofs.YthanlckjfghnkaaW.PrintMore Go.Proofs.Ythanlckjfghnkaa.PW Go.Proofs.Ythanlckjfghnkaa.Pc Go.Proofs.Ythanlckjfghnkaa.Ma Go.Proofs.Ythanlckjfghnkaa.Mb Go.Proofs.Ythanlckjfghnkaa.Mc Go.Proofs.Ythanlckjfghnkaa.Md Go.Proofs.Ythanlckjfghnkaa.Me Go.Proofs.Ythanlckjfghnkaa.Mi Go.Proofs.Ythanlckjfghnkaa.Mj Go.Proofs.Ythanlckjfghnkaa.Mk Go.Proofs.Ythanlckjfghnkaa.Ml Dg
open Pm (sgn)
theorem infoI : (Try.prog.info? 2).map (fun i => (i.zero, i.size, i.bytes)) = some (some (.int .i64 0), 1, 8) := by kernel_rfl
theorem sizeW : (Try.prog.info? 26).map (·.size) = some 2 := by kernel_rfl
def GivesW (w : World) (s : Int) (l : List Int) (b : Bool) (e : Ending) (w' : World) : Prop :=
  ∃ u, e = .returned (.tuple #[.agg #[.int .i64 s, u], .bool b]) ∧ Kd.R (Kd.int .i64) 2 w' w.heap.size (fun _ => True) u l ∧ Below w.heap.size w w'
set_option maxHeartbeats 1600000 in
theorem fromBig_no {w : World} {q : Nat} {z : Int} (hz : Z w q z) (h1 : bl z.natAbs ≤ 268435456) (h2 : ¬ bl z.natAbs ≤ 2400) :
    Calls Try.prog 43 #[.pointer (some ⟨q, 0, none⟩)] w (GivesW w 0 [] false) := by
  have hB := Me.bitLen (hz.below (below_alloc w (.cells #[.int .i64 0, .slice none 0 0] 26))) (by omega)
  have HB := Lib.hid hB
  have hgt : (2400 : Int) < ((bl z.natAbs : Nat) : Int) := by omega
  clear hB hz h1 h2
  generalize bl z.natAbs = b at *
  go_enter Try.func43, Try.ntmps43
  go_wp2_with fail
  refine HB.out.mono ?_
  rintro e w1 ⟨rfl, n, rfl⟩
  go_wp2
  have hbox : ((w.alloc (.cells #[.int .i64 0, .slice none 0 0] 26)).drewN n).heap[w.heap.size]? = some (.cells #[.int .i64 0, .slice none 0 0] 26 (0, 0)) := ((Me.below_drawn n).block w.heap.size (by simp)).trans (heap_alloc_new w _)
  have hb : Below w.heap.size w ((w.alloc (.cells #[.int .i64 0, .slice none 0 0] 26)).drewN n) := below_then (below_alloc w _) (Me.below_drawn n)
  exact bodyPost_ret (results_ct rfl _ _ w.heap.size 26 #[.int .i64 0, .slice none 0 0] (0, 0) _ rfl (blk_set (blk_set hbox 0 _) 1 _) Try.underlying26 rfl sizeW) rfl ⟨_, rfl, Kd.R_nil _ _ _ _ _, (hb.setCell (Nat.le_refl _) _).setCell (Nat.le_refl _) _⟩
def ZF (w : World) (p : Nat) (z : Int) (v : Value) : Prop :=
  ∃ A c, w.heap[p]? = some (.cells #[.bool (decide (z < 0)), .slice A (D z.natAbs).length c] 57 (0, 0)) ∧ Mg w A c (D z.natAbs) ∧ ∀ ad, A = some ad → 0 < (D z.natAbs).length → some ad.block ≠ v.ownBlock
section
variable {w w1 : World} {p : Nat} {n : Int} {v v1 : Value}
theorem ZF.zz (h : ZF w p n v) : Z w p n := by
  obtain ⟨A, c, hb, hm, _⟩ := h
  exact ⟨A, c, hb, hm⟩
theorem ZF.of (h : Z w p n) : ZF w p n (.slice none 0 0) := by
  obtain ⟨A, c, hb, hm⟩ := h
  exact ⟨A, c, hb, hm, fun ad _ _ e => by simp [Value.ownBlock] at e⟩
theorem ZF.below (h : ZF w p n v) (hb : Below w.heap.size w w1) : ZF w1 p n v := by
  obtain ⟨A, c, h1, hm, hv⟩ := h
  exact ⟨A, c, (hb.block p (Array.getElem?_eq_some_iff.1 h1).1).trans h1, hm.below hb, hv⟩
theorem ZF.grown {q : Nat} (h : ZF w p n v) (hg : w.grownBy w1 (some q)) (hq : Blk w q) (hne : p ≠ q) : ZF w1 p n v := by
  obtain ⟨A, c, hb, hm, hv⟩ := h
  exact ⟨A, c, (hg.block p (Array.getElem?_eq_some_iff.1 hb).1 (by simpa using hne)).trans hb, hm.grown hg hq, hv⟩
theorem add_block (a : Addr) (k : Nat) : (a.add k).block = a.block := by
  unfold Addr.add
  split <;> rfl
theorem Mg.kept_at {A : Option Addr} {c : Nat} {xs : List Int} (h : Mg w A c xs) (hk : ∀ ad, A = some ad → 0 < xs.length → w1.heap[ad.block]? = w.heap[ad.block]?) : Mg w1 A c xs := by
  refine ⟨?_, h.2⟩
  obtain ⟨h1, h2, h3⟩ := h.1
  refine ⟨h1, h2, fun hn => ?_⟩
  obtain ⟨ad, hA, hc⟩ := h3 hn
  refine ⟨ad, hA, fun j p hp => ?_⟩
  obtain ⟨cs, hs, hR, hcell⟩ := hc j p hp
  refine ⟨cs, hs, hR, fun i u hu => ?_⟩
  rw [← hcell i u hu]
  exact World.cell?_of_block (w := w) (w' := w1) (a := ad.add (j * (Kd.int IntKind.u32).sz + i)) (by rw [add_block]; exact hk ad hA hn)
theorem Mg.lt {A : Option Addr} {c : Nat} {xs : List Int} (h : Mg w A c xs) (ad : Addr) (hA : A = some ad) (hn : 0 < xs.length) : ad.block < w.heap.size := by
  subst hA
  exact Kd.C_lt h.1 hn (by decide)
theorem ZF.after (h : ZF w p n v) (hpv : some p ≠ v.ownBlock) (hg : w.grownBy w1 v.ownBlock) (hat : v1.ownBlock = v.ownBlock ∨ ∃ b, v1.ownBlock = some b ∧ w.heap.size ≤ b) : ZF w1 p n v1 := by
  obtain ⟨A, c, hb, hm, hv⟩ := h
  refine ⟨A, c, (hg.block p (Array.getElem?_eq_some_iff.1 hb).1 hpv).trans hb, Mg.kept_at hm fun ad hA hn => hg.block _ (Mn.Mg.lt hm ad hA hn) (hv ad hA hn), fun ad hA hn => ?_⟩
  rcases hat with e | ⟨b, e, hle⟩
  · rw [e]; exact hv ad hA hn
  · rw [e]
    intro e2
    injection e2 with e2
    have := Mn.Mg.lt hm ad hA hn
    omega
theorem ZF.store {gw : Nat} {cs : Array Value} (h : ZF w p n v) (hw : w.heap[gw]? = some (.cells cs 26 (0, 0))) (hc : cs.size = 2) (h0 : ∀ x, cs[0]? ≠ some (.int .u32 x)) (h1 : ∀ x, cs[1]? ≠ some (.int .u32 x)) (i : Nat) (u : Value) : ZF (w.setCell ⟨gw, i, none⟩ u) p n v := by
  obtain ⟨A, c, hb, hm, hv⟩ := h
  have hne : p ≠ gw := by
    rintro rfl
    rw [hb] at hw
    injection hw with hw
    injection hw with _ hw
    exact absurd hw (by decide)
  refine ⟨A, c, (Below.heap_setCell _ _ _ _ hne).trans hb, Mg.kept_at hm fun ad hA hn => Below.heap_setCell _ _ _ _ ?_, hv⟩
  intro e
  have e : ad.block = gw := e
  obtain ⟨ad', hA', hc'⟩ := hm.1.2.2 hn
  rw [hA] at hA'
  injection hA' with hA'
  subst hA'
  obtain ⟨cs', hs, hR, hcell⟩ := hc' 0 _ (List.getElem?_eq_getElem hn)
  have hR' : cs' = [.int .u32 (D n.natAbs)[0]] := hR
  subst hR'
  have h4 := hcell 0 _ rfl
  rw [← e] at hw
  simp only [World.cell?, add_block, hw] at h4
  split at h4
  · cases h4
  · generalize (ad.add (0 * (Kd.int IntKind.u32).sz + 0)).off = o at h4
    match o, h4 with
    | 0, h4 => exact h0 _ h4
    | 1, h4 => exact h1 _ h4
    | n + 2, h4 =>
      rw [Array.getElem?_eq_none (by omega)] at h4
      cases h4
end
def GivesMgF (N : Nat) (w : World) (n : Nat) (e : Ending) (w' : World) : Prop :=
  ∃ A c, e = .returned (.slice A (D n).length c) ∧ Mg w' A c (D n) ∧ (∀ ad, A = some ad → 0 < (D n).length → N ≤ ad.block) ∧ Below w.heap.size w w'
def PutsF (N : Nat) (w : World) (p : Nat) (z : Int) (e : Ending) (w' : World) : Prop :=
  Puts w p z e w' ∧ ∀ A n c, w'.cell? ⟨p, 1, none⟩ = some (.slice A n c) → ∀ ad, A = some ad → 0 < n → N ≤ ad.block
theorem fresh_of {w w' : World} {N : Nat} {e : Ending} {v : Value} {n : Nat} {b : Nat} {t : Nat} (he : e = .returned v) (h : Kd.V (Kd.int .u32) t w' b (fun k => N ≤ k) v (D n)) (hb : Below w.heap.size w w') : GivesMgF N w n e w' := by
  obtain ⟨A, c, rfl, hm⟩ := Mg.of_V h
  exact ⟨A, c, he, hm, fun ad hA hn => Kd.F_in (Kd.V_F h) hA hn (by decide), hb⟩
theorem V_of_fresh {w : World} {N : Nat} {A : Option Addr} {c : Nat} {xs : List Int} (h : Mg w A c xs) (hA : ∀ ad, A = some ad → 0 < xs.length → N ≤ ad.block) : Kd.V (Kd.int .u32) 94 w w.heap.size (fun k => N ≤ k) (.slice A xs.length c) xs := by
  refine Kd.V_mk h.2 ?_
  intro W' hW
  exact (Mn.Mg.kept_at (w1 := W') h fun ad hA' hn => hW _ (hA ad hA' hn) (Mn.Mg.lt h ad hA' hn)).1
theorem cRightF {w : World} {A : Option Addr} {c a n : Nat} (ha : Mg w A c (D a)) (h1 : bl a ≤ 536870912) (h2 : n ≤ 536870912) :
    Calls Try.prog 91 #[.slice A (D a).length c, .int .u64 n] w (GivesMgF w.heap.size w (a / 2 ^ n)) := by
  obtain ⟨k, hk⟩ := (Po.right a n h1 h2).rounds
  refine (impl_magRight.calls k A c _ _ _ w ha.1 ha.2 hk).mono ?_
  rintro e w' ⟨v, he, hv, hbl⟩
  exact fresh_of he hv hbl
theorem cTrimF {w : World} {N : Nat} {A : Option Addr} {c n : Nat} (h : Mg w A c (D n)) (hA : ∀ ad, A = some ad → 0 < (D n).length → N ≤ ad.block) (hN : N ≤ w.heap.size) (hl : bl n ≤ 1099511627776) :
    Calls Try.prog 75 #[.slice A (D n).length c] w (GivesMgF N w n) := by
  have hl2 := D_len n
  obtain ⟨k, hk⟩ := (Pm.trim _ (D n) rfl (D_dig n) (by omega)).rounds
  rw [D_val, Int.toNat_natCast] at hk
  refine (impl_magTrim.calls k (fun k => N ≤ k) A c (D n) _ w (V_of_fresh h hA) hk).mono ?_
  rintro e w' ⟨v, he, hv, hb⟩
  exact fresh_of he (Kd.V_mono hv (fun k hk => hk.elim id (fun h => Nat.le_trans hN h))) hb
set_option maxHeartbeats 400000 in
theorem putF {w W : World} {p n N : Nat} {A : Option Addr} {c : Nat} (hp : Blk w p) (hb : Below w.heap.size w W) (hN : N ≤ w.heap.size) (hm : Mg W A c (D n)) (hA : ∀ ad, A = some ad → 0 < (D n).length → N ≤ ad.block) (hl : bl n ≤ 1099511627776) :
    Calls Try.prog 62 #[.pointer (some ⟨p, 0, none⟩), .bool false, .slice A (D n).length c] W (PutsF N w p (n : Int)) := by
  have hT := cTrimF hm hA (Nat.le_trans hN hb.size) hl
  obtain ⟨b, B, m, d, hbx⟩ := hp
  have hlt : p < w.heap.size := (Array.getElem?_eq_some_iff.1 hbx).1
  have HB := Lib.hid hbx
  have HT := Lib.hid hT
  have HBW := Lib.hid hb
  clear hT hbx hm hA hl hb
  have hE : ∀ w1 : World, Below w.heap.size w w1 → (w1.cell? ⟨p, 0, none⟩ = some (.bool b) ∧ w1.cell? ⟨p, 1, none⟩ = some (.slice B m d) ∧ w1.frozen? ⟨p, 0, none⟩ = false ∧ w1.frozen? ⟨p, 1, none⟩ = false) := fun w1 h => by
    have h1 := (h.block p hlt).trans HB.out
    exact ⟨blk_cell h1 0, blk_cell h1 1, blk_frozen h1 0, blk_frozen h1 1⟩
  have HE := Lib.hid hE
  clear hE
  have hgoal : ∀ (w1 : World) (A' : Option Addr) (c' : Nat), Below w.heap.size w w1 → Mg w1 A' c' (D n) → (∀ ad, A' = some ad → 0 < (D n).length → N ≤ ad.block) → PutsF N w p (n : Int) (.returned (.pointer (some ⟨p, 0, none⟩))) ((w1.setCell ⟨p, 1, none⟩ (.slice A' (D n).length c')).setCell ⟨p, 0, none⟩ (.bool false)) := by
    intro w1 A' c' hbl hmg hA'
    have h1 := puts_of (z := (n : Int)) (A := A') (c := c') (neg := false) HB.out hbl (by simpa using hmg) (by simp)
    refine ⟨h1, ?_⟩
    have h2 := blk_set (blk_set ((hbl.block p hlt).trans HB.out) 1 (.slice A' (D n).length c')) 0 (.bool false)
    have h3 := blk_cell h2 1
    intro A2 n2 c2 he ad hA2 hn
    rw [h3] at he
    injection he with he
    simp at he
    obtain ⟨rfl, rfl, rfl⟩ := he
    exact hA' ad hA2 hn
  have HG := Lib.hid hgoal
  clear hgoal
  go_enter Try.func62, Try.ntmps62
  go_wp2_with fail
  refine HT.out.mono ?_
  rintro e w1 ⟨A', c', rfl, hmg, hA', hbl⟩
  obtain ⟨k0, k1, f0, f1⟩ := HE.out w1 (below_then HBW.out hbl)
  have h2 := Lib.hid (HG.out w1 A' c' (below_then HBW.out hbl) hmg hA')
  clear hmg hbl hA' HB HBW
  go_wp2
  go_ret
  exact h2.out
set_option maxHeartbeats 800000 in
theorem rshF {w : World} {p m n : Nat} (hz : Z w p (m : Int)) (h1 : bl m ≤ 268435456) (h2 : n ≤ 268435456) :
    Calls Try.prog 66 #[.pointer (some ⟨p, 0, none⟩), .pointer (some ⟨p, 0, none⟩), .int .u64 n] w (PutsF w.heap.size w p ((m / 2 ^ n : Nat) : Int)) := by
  have hp := hz.blk
  obtain ⟨A, c, k0, k1, hm, hq⟩ := Z.open hz
  rw [Int.natAbs_natCast] at k1 hm
  rw [show decide ((m : Int) < 0) = false by simp] at k0
  have b2 := bl_mono (Nat.div_le_self m (2 ^ n))
  have hR := cRightF hm (n := n) (by omega) (by omega)
  have hP := fun (w1 : World) (A' : Option Addr) (c' : Nat) h1 h2 h3 => putF (W := w1) (A := A') (c := c') (n := m / 2 ^ n) hp h1 (Nat.le_refl _) h2 h3 (by omega)
  have HR := Lib.hid hR
  have HP := Lib.hid hP
  clear hR hP b2 h1 h2 hm hp hz
  go_enter Try.func66, Try.ntmps66
  go_wp2_with fail
  refine HR.out.mono ?_
  rintro e w1 ⟨A1, c1, rfl, hm1, hA1, hb1⟩
  have HP1 := Lib.hid (HP.out w1 A1 c1 hb1 hm1 hA1)
  clear hm1 hb1 hA1
  go_wp2_with fail
  refine HP1.out.mono ?_
  rintro e w4 hz2
  have HE := Lib.hid hz2
  obtain ⟨⟨rfl, hz3, hg3⟩, h4⟩ := hz2
  clear hz3 hg3 h4
  go_wp2
  go_ret
  exact HE.out
def St (w wr : World) (gw gr gm : Nat) (s : Int) (m k : Nat) (v : Value) (pre : List Int) : Prop :=
  wr.heap[gw]? = some (.cells #[.int .i64 s, v] 26 (0, 0)) ∧ Kd.R (Kd.int .i64) 2 wr w.heap.size (fun _ => True) v pre ∧ ZF wr gr (k : Int) v ∧ ZF wr gm 16777215 v ∧ Below w.heap.size w wr ∧ pre ++ L k = L m
section
variable {w wr w1 : World} {gw gr gm m k : Nat} {s : Int} {v v1 : Value} {pre : List Int}
theorem St.cell (h : St w wr gw gr gm s m k v pre) : wr.cell? ⟨gw, 1, none⟩ = some v := blk_cell h.1 1
theorem St.lt (h : St w wr gw gr gm s m k v pre) : gw < wr.heap.size := by
  have := h.1
  rw [Array.getElem?_eq_some_iff] at this
  exact this.1
theorem St.below (h : St w wr gw gr gm s m k v pre) (hb : Below wr.heap.size wr w1) : St w w1 gw gr gm s m k v pre :=
  ⟨(hb.block gw h.lt).trans h.1, Kd.R_below h.2.1 hb, h.2.2.1.below hb, h.2.2.2.1.below hb, below_then h.2.2.2.2.1 hb, h.2.2.2.2.2⟩
theorem ne_types {g p : Nat} {cs : Array Value} {t : TypeId} (h : wr.heap[g]? = some (.cells cs t (0, 0))) (hp : Blk wr p) (ht : t ≠ 57) : g ≠ p := by
  rintro rfl
  obtain ⟨b, A, n, c, hc⟩ := hp
  rw [h] at hc
  injection hc with hc
  injection hc with _ hc
  exact ht hc
theorem St.other {p : Nat} (h : St w wr gw gr gm s m k v pre) (hp : Blk wr p) (h1 : gr ≠ p) (h2 : gm ≠ p) (hN : w.heap.size ≤ p) (hg : wr.grownBy w1 (some p)) : St w w1 gw gr gm s m k v pre := by
  refine ⟨(hg.block gw h.lt (by have := ne_types h.1 hp (by decide); simpa using this)).trans h.1, ?_, h.2.2.1.grown hg hp h1, h.2.2.2.1.grown hg hp h2, below_grown h.2.2.2.2.1 hg hN, h.2.2.2.2.2⟩
  obtain ⟨b, A, n, c, hc⟩ := hp
  exact Kd.R_mono (Kd.R_grown (Kd.R_types h.2.1 hc (by decide)) hg (fun k hk => by have := hk.2; simpa using this)) (fun _ hk => hk.1)
theorem St.rest {k' : Nat} {e : Ending} (h : St w wr gw gr gm s m k v pre) (hp : PutsF wr.heap.size wr gr (k' : Int) e w1) (hne : gm ≠ gr) (hgr : w.heap.size ≤ gr) (he : pre ++ L k' = L m) : St w w1 gw gr gm s m k' v pre := by
  obtain ⟨⟨_, hz, hg⟩, hf⟩ := hp
  have hb := h.2.2.1.zz.blk
  refine ⟨(hg.block gw h.lt (by have := ne_types h.1 hb (by decide); simpa using this)).trans h.1, ?_, ?_, h.2.2.2.1.grown hg hb hne, below_grown h.2.2.2.2.1 hg hgr, he⟩
  · obtain ⟨b, A, n, c, hc⟩ := hb
    exact Kd.R_mono (Kd.R_grown (Kd.R_types h.2.1 hc (by decide)) hg (fun k hk => by have := hk.2; simpa using this)) (fun _ hk => hk.1)
  · obtain ⟨A, c, hzb, hm⟩ := hz
    refine ⟨A, c, hzb, hm, fun ad hA hn ho => ?_⟩
    have h1 := hf _ _ _ (blk_cell hzb 1) ad hA hn
    have h2 := Kd.R_lt h.2.1 _ ho.symm
    omega
theorem St.put {wr1 : World} {p : Int} {k' : Nat} (h : St w wr gw gr gm s m k v pre) (ho : Kd.R (Kd.int .i64) 2 wr1 w.heap.size (fun _ => True) v1 (pre ++ [p])) (hg : wr.grownBy wr1 v.ownBlock) (hat : v1.ownBlock = v.ownBlock ∨ ∃ b, v1.ownBlock = some b ∧ wr.heap.size ≤ b) (hb : Below w.heap.size w wr1) (hgw : w.heap.size ≤ gw) :
    wr1.frozen? ⟨gw, 1, none⟩ = false ∧ (wr1.setCell ⟨gw, 1, none⟩ v1).heap[gw]? = some (.cells #[.int .i64 s, v1] 26 (0, 0)) ∧ Kd.R (Kd.int .i64) 2 (wr1.setCell ⟨gw, 1, none⟩ v1) w.heap.size (fun _ => True) v1 (pre ++ [p]) ∧ ZF (wr1.setCell ⟨gw, 1, none⟩ v1) gr (k : Int) v1 ∧ ZF (wr1.setCell ⟨gw, 1, none⟩ v1) gm 16777215 v1 ∧ Below w.heap.size w (wr1.setCell ⟨gw, 1, none⟩ v1) := by
  have hgw1 : wr1.heap[gw]? = some (.cells #[.int .i64 s, v] 26 (0, 0)) := (hg.block gw h.lt (Kd.R_ne h.2.1 h.1 (by decide))).trans h.1
  obtain ⟨A, c, hv⟩ := Kd.R_slice h.2.1
  refine ⟨blk_frozen hgw1 1, blk_set hgw1 1 v1, Kd.R_set ho hgw1 (by decide) 1 v1, ?_, ?_, hb.setCell hgw _⟩
  · obtain ⟨b, B, n, d, hc⟩ := h.2.2.1.zz.blk
    exact (h.2.2.1.after (Kd.R_ne h.2.1 hc (by decide)) hg hat).store hgw1 rfl (by simp) (by subst hv; simp) 1 v1
  · obtain ⟨b, B, n, d, hc⟩ := h.2.2.2.1.zz.blk
    exact (h.2.2.2.1.after (Kd.R_ne h.2.1 hc (by decide)) hg hat).store hgw1 rfl (by simp) (by subst hv; simp) 1 v1
def Sr (w wr : World) (gw gr gm : Nat) (s : Int) (m k : Nat) (v : Value) (pre : List Int) : Prop :=
  St w wr gw gr gm s m k v pre ∧ wr.heap[w.heap.size]? = some (.cells #[.int .i64 0, .slice none 0 0] 26 (0, 0))
theorem Sr.lt (h : Sr w wr gw gr gm s m k v pre) : w.heap.size < wr.heap.size := (Array.getElem?_eq_some_iff.1 h.2).1
theorem Sr.below (h : Sr w wr gw gr gm s m k v pre) (hb : Below wr.heap.size wr w1) : Sr w w1 gw gr gm s m k v pre :=
  ⟨h.1.below hb, (hb.block _ h.lt).trans h.2⟩
theorem Sr.other {p : Nat} (h : Sr w wr gw gr gm s m k v pre) (hp : Blk wr p) (h1 : gr ≠ p) (h2 : gm ≠ p) (hN : w.heap.size < p) (hg : wr.grownBy w1 (some p)) : Sr w w1 gw gr gm s m k v pre :=
  ⟨h.1.other hp h1 h2 (by omega) hg, (hg.block _ h.lt (by simp; omega)).trans h.2⟩
theorem Sr.rest {k' : Nat} {e : Ending} (h : Sr w wr gw gr gm s m k v pre) (hp : PutsF wr.heap.size wr gr (k' : Int) e w1) (hne : gm ≠ gr) (hgr : w.heap.size < gr) (he : pre ++ L k' = L m) : Sr w w1 gw gr gm s m k' v pre :=
  ⟨h.1.rest hp hne (by omega) he, (hp.1.2.2.block _ h.lt (by simp; omega)).trans h.2⟩
def Sm (w wr : World) (gw gr gm : Nat) (s : Int) (k : Nat) (v : Value) (pre : List Int) : Prop :=
  wr.heap[gw]? = some (.cells #[.int .i64 s, v] 26 (0, 0)) ∧ Kd.R (Kd.int .i64) 2 wr w.heap.size (fun _ => True) v pre ∧ ZF wr gr (k : Int) v ∧ ZF wr gm 16777215 v ∧ Below w.heap.size w wr ∧ wr.heap[w.heap.size]? = some (.cells #[.int .i64 0, .slice none 0 0] 26 (0, 0))
theorem Sr.put {wr1 : World} {p : Int} (h : Sr w wr gw gr gm s m k v pre) (ho : Kd.R (Kd.int .i64) 2 wr1 w.heap.size (fun _ => True) v1 (pre ++ [p])) (hg : wr.grownBy wr1 v.ownBlock) (hat : v1.ownBlock = v.ownBlock ∨ ∃ b, v1.ownBlock = some b ∧ wr.heap.size ≤ b) (hb : Below w.heap.size w wr1) (hgw : w.heap.size < gw) :
    wr1.frozen? ⟨gw, 1, none⟩ = false ∧ (∃ u, wr1.cell? ⟨gw, 1, none⟩ = some u) ∧ Sm w (wr1.setCell ⟨gw, 1, none⟩ v1) gw gr gm s k v1 (pre ++ [p]) := by
  obtain ⟨h1, h2, h3, h4, h5, h6⟩ := h.1.put (k' := 0) ho hg hat hb (by omega)
  refine ⟨h1, ?_, h2, h3, h4, h5, h6, ?_⟩
  · have hgw1 : wr1.heap[gw]? = some (.cells #[.int .i64 s, v] 26 (0, 0)) := (hg.block gw h.1.lt (Kd.R_ne h.1.2.1 h.1.1 (by decide))).trans h.1.1
    exact ⟨_, blk_cell hgw1 1⟩
  · refine (Below.heap_setCell _ _ _ _ (by show w.heap.size ≠ gw; omega)).trans ?_
    exact (hg.block _ h.lt (Kd.R_ne h.1.2.1 h.2 (by decide))).trans h.2
theorem Sm.rest {k' : Nat} {e : Ending} (h : Sm w wr gw gr gm s k v pre) (hp : PutsF wr.heap.size wr gr (k' : Int) e w1) (hne : gm ≠ gr) (hgr : w.heap.size < gr) (he : pre ++ L k' = L m) : Sr w w1 gw gr gm s m k' v pre := by
  obtain ⟨h2, h3, h4, h5, h6, h7⟩ := h
  have hlt : w.heap.size < wr.heap.size := (Array.getElem?_eq_some_iff.1 h7).1
  have hltg : gw < wr.heap.size := (Array.getElem?_eq_some_iff.1 h2).1
  obtain ⟨⟨_, hz, hg⟩, hf⟩ := hp
  have hb := h4.zz.blk
  refine ⟨⟨(hg.block gw hltg (by have := ne_types h2 hb (by decide); simpa using this)).trans h2, ?_, ?_, h5.grown hg hb hne, below_grown h6 hg (by omega), he⟩, (hg.block _ hlt (by simp; omega)).trans h7⟩
  · obtain ⟨b, A, n, c, hc⟩ := hb
    exact Kd.R_mono (Kd.R_grown (Kd.R_types h3 hc (by decide)) hg (fun k hk => by have := hk.2; simpa using this)) (fun _ hk => hk.1)
  · obtain ⟨A, c, hzb, hm⟩ := hz
    refine ⟨A, c, hzb, hm, fun ad hA hn ho => ?_⟩
    have h1 := hf _ _ _ (blk_cell hzb 1) ad hA hn
    have h2 := Kd.R_lt h3 _ ho.symm
    omega
end
end Go.Proofs.Ythanlckjfghnkaa.Mn
end
section
set_option linter.unusedVariables false
set_option linter.unusedSimpArgs false
namespace Go.Proofs.Ythanlckjfghnkaa.Mo
open Go.RowKit Go.Proofs.YthanlckjfghnkaaW.PrintWords Go.Proofs.YthanlckjfghnkaaW.PrintLast Go.Proofs.YthanlckjfghnkaaW.PrintMore Go.Proofs.Ythanlckjfghnkaa.PW Go.Proofs.Ythanlckjfghnkaa.Pc Go.Proofs.Ythanlckjfghnkaa.Ma Go.Proofs.Ythanlckjfghnkaa.Mb Go.Proofs.Ythanlckjfghnkaa.Mc Go.Proofs.Ythanlckjfghnkaa.Md Go.Proofs.Ythanlckjfghnkaa.Me Go.Proofs.Ythanlckjfghnkaa.Mi Go.Proofs.Ythanlckjfghnkaa.Mj Go.Proofs.Ythanlckjfghnkaa.Mk Go.Proofs.Ythanlckjfghnkaa.Ml Go.Proofs.Ythanlckjfghnkaa.Mn Dg
open Pm (sgn)
theorem L_next {k : Nat} (h : k ≠ 0) : L k = ((k % 16777216 : Nat) : Int) :: L (k / 16777216) := dg_pos _ h
theorem and_mask (k : Nat) : (((k : Int).natAbs &&& (16777215 : Int).natAbs : Nat) : Int) = ((k % 16777216 : Nat) : Int) := by
  have := Nat.and_two_pow_sub_one_eq_mod k 24
  rw [Int.natAbs_natCast, ← this]
  rfl
set_option maxHeartbeats 1600000 in
theorem fromBig_yes {w : World} {q : Nat} {z : Int} (hz : Z w q z) (h1 : bl z.natAbs ≤ 2400) :
    Calls Try.prog 43 #[.pointer (some ⟨q, 0, none⟩)] w (GivesW w (sgn z) (L z.natAbs) true) := by
  have hB := Me.bitLen (hz.below (below_alloc w (.cells #[.int .i64 0, .slice none 0 0] 26))) (by omega)
  have HB := Lib.hid hB
  have hgt : ((bl z.natAbs : Nat) : Int) ≤ 2400 := by omega
  clear hB
  have HZ := Lib.hid hz
  have HL := Lib.hid h1
  clear hz h1
  generalize bl z.natAbs = b at hgt HB
  go_enter Try.func43, Try.ntmps43
  go_wp2_with fail
  refine HB.out.mono ?_
  rintro e w1 ⟨rfl, n, rfl⟩
  have hb0 : Below w.heap.size w ((w.alloc (.cells #[.int .i64 0, .slice none 0 0] 26)).drewN n) := below_then (below_alloc w _) (Me.below_drawn n)
  have hS := Me.sign (HZ.out.below hb0)
  have hbx : ((w.alloc (.cells #[.int .i64 0, .slice none 0 0] 26)).drewN n).heap[w.heap.size]? = some (.cells #[.int .i64 0, .slice none 0 0] 26 (0, 0)) := ((Me.below_drawn n).block w.heap.size (by simp)).trans (heap_alloc_new w _)
  have hsz : ((w.alloc (.cells #[.int .i64 0, .slice none 0 0] 26)).drewN n).heap.size = w.heap.size + 1 := by show (w.alloc _).heap.size = _; simp
  have HS := Lib.hid hS
  have HB0 := Lib.hid hb0
  have HBX := Lib.hid hbx
  have HSZ := Lib.hid hsz
  clear hS hb0 hbx hsz
  generalize hW0 : (w.alloc (.cells #[.int .i64 0, .slice none 0 0] 26)).drewN n = W0 at *
  clear hW0
  go_wp2_with fail
  refine HS.out.mono ?_
  rintro e w2 ⟨rfl, rfl⟩
  -- the integers that are made
  have hz2 := HZ.out.below (below_then (below_then HB0.out (Ma.below_alloc W0 (.cells #[.int .i64 (sgn z), .slice none 0 0] 26))) (Ma.below_alloc _ (.cells #[.bool false, .slice none 0 0] 57)))
  have hp2 : Blk ((W0.alloc (.cells #[.int .i64 (sgn z), .slice none 0 0] 26)).alloc (.cells #[.bool false, .slice none 0 0] 57)) (W0.heap.size + 1) := by
    have := (Z.new (W0.alloc (.cells #[.int .i64 (sgn z), .slice none 0 0] 26))).blk
    simpa using this
  have hA := Me.abs hp2 hz2 (by have := HL.out; omega)
  have HA := Lib.hid hA
  have HP2 := Lib.hid hp2
  clear hA hz2 hp2
  go_wp2_with fail
  refine HA.out.mono ?_
  rintro e w3 ⟨rfl, hz3, hg3⟩
  have HZ3 := Lib.hid hz3
  have HG3 := Lib.hid hg3
  have hn3 := newInt (w := w3) (n := 16777215) (by decide) (by decide)
  have HN3 := Lib.hid hn3
  clear hz3 hg3 hn3
  go_wp2_with fail
  refine HN3.out.mono ?_
  rintro e w4 ⟨gm, rfl, hz4, hgm, hb4⟩
  have hst : Sr w w4 W0.heap.size (W0.heap.size + 1) gm (sgn z) z.natAbs z.natAbs (.slice none 0 0) [] := by
    have hA1 : Below W0.heap.size W0 ((W0.alloc (.cells #[.int .i64 (sgn z), .slice none 0 0] 26)).alloc (.cells #[.bool false, .slice none 0 0] 57)) := below_then (Ma.below_alloc W0 _) (Ma.below_alloc _ _)
    have hA2 : Below W0.heap.size W0 w3 := below_grown hA1 HG3.out (by omega)
    have hs3 := HG3.out.size
    simp at hs3
    have hcell : ((W0.alloc (.cells #[.int .i64 (sgn z), .slice none 0 0] 26)).alloc (.cells #[.bool false, .slice none 0 0] 57)).heap[W0.heap.size]? = some (.cells #[.int .i64 (sgn z), .slice none 0 0] 26 (0, 0)) := ((Ma.below_alloc _ _).block _ (by simp)).trans (heap_alloc_new W0 _)
    have hcell3 := (HG3.out.block W0.heap.size (by simp; omega) (by simp)).trans hcell
    have hcell4 := (hb4.block W0.heap.size (by omega)).trans hcell3
    have h0 : w.heap.size < W0.heap.size := by have := HSZ.out; omega
    refine ⟨⟨hcell4, Kd.R_nil _ _ _ _ _, ZF.of (HZ3.out.below hb4), ZF.of hz4, below_then (below_then HB0.out hA2) hb4, rfl⟩, ?_⟩
    exact (hb4.block _ (by omega)).trans ((hA2.block _ h0).trans HBX.out)
  have hne : gm ≠ W0.heap.size + 1 := by have := HZ3.out.lt; omega
  have hlim : (L z.natAbs).length ≤ 100 := (L_len_iff _ _).2 (by have := HL.out; omega)
  have HST := Lib.hid hst
  have HNE := Lib.hid hne
  have HLIM := Lib.hid hlim
  have hsz2 : w.heap.size < W0.heap.size := by have := HSZ.out; omega
  have HSZ2 := Lib.hid hsz2
  clear hz4 hgm hb4 hst hne hlim hsz2 HZ3 HG3 HN3 HA HP2 HS HB0 HBX HSZ HZ HB
  go_wp2_with fail
  generalize W0.heap.size = g at *
  have hsign : ∀ (wr : World) (k : Nat) (v : Value) (pre : List Int), Sr w wr g (g + 1) gm (sgn z) z.natAbs k v pre → Calls Try.prog 61 #[.pointer (some ⟨g + 1, 0, none⟩)] wr fun e w' => e = .returned (.int .i64 (sgn (k : Int))) ∧ wr = w' := fun wr k v pre h => Me.sign h.1.2.2.1.zz
  have HSG := Lib.hid hsign
  clear hsign
  go_loopg [] (L z.natAbs).length (fun n wr => ∃ (k : Nat) (v : Value) (pre : List Int), n = (L k).length ∧ Hid (Sr w wr g (g + 1) gm (sgn z) z.natAbs k v pre))
  case atStart => exact ⟨_, _, [], rfl, HST⟩
  case round =>
    obtain ⟨k, v, pre, hlen, HR⟩ := hrel
    clear HST
    obtain ⟨A, c, rfl⟩ := Kd.R_slice HR.out.1.2.1
    by_cases hk : k = 0
    · subst hk
      have hs0 : sgn ((0 : Nat) : Int) = 0 := rfl
      have HS0 := Lib.hid hs0
      clear hs0 hlen
      go_wp2_with fail
      refine (HSG.out wr _ _ _ HR.out).mono ?_
      rintro e w2 ⟨rfl, rfl⟩
      rw [HS0.out]
      have k0 := blk_cell HR.out.1.1 0
      have k1 := blk_cell HR.out.1.1 1
      simp only [List.getElem?_toArray, List.getElem?_cons_zero, List.getElem?_cons_succ] at k0 k1
      have c0 := blk_cell HR.out.2 0
      have c1 := blk_cell HR.out.2 1
      have f0 := blk_frozen HR.out.2 0
      have f1 := blk_frozen HR.out.2 1
      simp only [List.getElem?_toArray, List.getElem?_cons_zero, List.getElem?_cons_succ] at c0 c1
      go_wp2
      have hL0 : pre = L z.natAbs := by have := HR.out.1.2.2.2.2.2; rwa [show L 0 = [] from dg_zero _, List.append_nil] at this
      have hR := Kd.R_set (Kd.R_set HR.out.1.2.1 HR.out.2 (by decide) 0 (.int .i64 (sgn z))) (blk_set HR.out.2 0 (.int .i64 (sgn z))) (by decide) 1 (.slice A pre.length c)
      have hB := (HR.out.1.2.2.2.2.1.setCell (p := ⟨w.heap.size, 0, none⟩) (Nat.le_refl _) (.int .i64 (sgn z))).setCell (p := ⟨w.heap.size, 1, none⟩) (Nat.le_refl _) (.slice A pre.length c)
      have hBL := blk_set (blk_set HR.out.2 0 (.int .i64 (sgn z))) 1 (.slice A pre.length c)
      clear c0 c1 f0 f1 k0 k1
      rw [← hL0]
      exact bodyPost_ret (results_ct rfl _ _ w.heap.size 26 #[.int .i64 (sgn z), .slice A pre.length c] (0, 0) _ rfl hBL Try.underlying26 rfl sizeW) rfl ⟨_, rfl, hR, hB⟩
    · have hs1 : sgn ((k : Nat) : Int) = 1 := by unfold sgn; rw [if_neg (by omega), if_neg (by omega)]
      have HS1 := Lib.hid hs1
      have HK := Lib.hid hk
      clear hs1 hk
      go_wp2_with fail
      refine (HSG.out wr _ _ _ HR.out).mono ?_
      rintro e w2 ⟨rfl, rfl⟩
      rw [HS1.out]
      have kc := blk_cell HR.out.1.1 1
      simp only [List.getElem?_toArray, List.getElem?_cons_zero, List.getElem?_cons_succ] at kc
      have hlt := HR.out.1.lt
      have hh := HR.out.1.2.2.2.2.2
      have hpl : (pre.length + 1) * 8 ≤ 140737488355328 := by have := congrArg List.length hh; rw [List.length_append] at this; have := HLIM.out; omega
      have hbk : bl k ≤ 2400 := by
        have : (L k).length ≤ 100 := by have := congrArg List.length hh; rw [List.length_append] at this; have := HLIM.out; omega
        have := (L_len_iff k 100).1 this
        omega
      rw [L_next HK.out] at hh hlen
      have he : (pre ++ [((k % 16777216 : Nat) : Int)]) ++ L (k / 16777216) = L z.natAbs := by rw [List.append_assoc]; exact hh
      have hms : (L (k / 16777216)).length < gk := by rw [hlen]; simp
      have HPL := Lib.hid hpl
      have HBK := Lib.hid hbk
      have HE := Lib.hid he
      have HMS := Lib.hid hms
      clear hh hpl hbk he hms hlen
      have hand : ∀ W : World, Below wr.heap.size wr W → Blk W wr.heap.size → Calls Try.prog 79 #[.pointer (some ⟨wr.heap.size, 0, none⟩), .pointer (some ⟨g + 1, 0, none⟩), .pointer (some ⟨gm, 0, none⟩)] W fun e w' => e = .returned (.pointer (some ⟨wr.heap.size, 0, none⟩)) ∧ Hid (Sr w w' g (g + 1) gm (sgn z) z.natAbs k (.slice A pre.length c) pre) ∧ Hid (Z w' wr.heap.size ((k % 16777216 : Nat) : Int)) ∧ w'.cell? ⟨g, 1, none⟩ = some (.slice A pre.length c) := by
        intro W hW hB
        have hr := HR.out.below hW
        have h0 := HR.out.1.2.2.1.zz.lt
        have h2 := HR.out.1.2.2.2.1.zz.lt
        have hbk : bl ((k : Nat) : Int).natAbs ≤ 2400 := by
          have := HBK.out
          rw [Int.natAbs_natCast]; omega
        refine (andd hB hr.1.2.2.1.zz hr.1.2.2.2.1.zz (by omega) (by decide)).mono ?_
        rintro e w' ⟨rfl, hz, hg⟩
        rw [and_mask] at hz
        have hr2 := hr.other hB (by omega) (by omega) (by have := HR.out.lt; omega) hg
        exact ⟨rfl, Lib.hid hr2, Lib.hid hz, hr2.1.cell⟩
      have HAND := Lib.hid hand
      have hint : ∀ W : World, Z W wr.heap.size ((k % 16777216 : Nat) : Int) → Calls Try.prog 80 #[.pointer (some ⟨wr.heap.size, 0, none⟩)] W fun e w' => e = .returned (.int .i64 ((k % 16777216 : Nat) : Int)) ∧ W = w' := fun W hW => int64 hW (by omega) (by omega)
      have HINT := Lib.hid hint
      clear hand hint
      go_wp2_with fail
      go_region_law (first | (go_simp; go_at_call 79; refine (HAND.out _ (by first | exact ((Below.refl _ _).alloc (Nat.le_refl _) _).drew | exact (Below.refl _ _).drew.alloc (Nat.le_refl _) _) (by first | exact (Z.new wr).blk.below (Below.refl _ _).drew | exact (Z.new wr.drew).blk)).mono ?_; rintro e w2 ⟨rfl, HR2, HZ2, kc2⟩; have hl2 := HR2.out.1.lt; clear HR kc) | (go_simp; go_at_call 80; refine (HINT.out _ HZ2.out).mono ?_; rintro e w3 ⟨rfl, rfl⟩) | (refine Kd.R_append_step (Kd.int .i64) (w0 := w) w.heap.size (by rfl) (.tmp 22) (.tmp 28) 22 2 (.int .i64 0) 8 rfl Try.underlying22 infoI rfl (by decide) (by omega) _ pre ((k % 16777216 : Nat) : Int) [.int .i64 ((k % 16777216 : Nat) : Int)] (fun _ => True) (fun _ => False) rfl rfl rfl (fun _ hk => hk.elim) (fun _ _ => trivial) HR2.out.1.2.1 HR2.out.1.2.2.2.2.1 HR2.out.1.2.2.2.2.1.size HPL.out ?_; intro v1 w1 ho hb hg hat; obtain ⟨A1, c1, rfl⟩ := Kd.R_slice ho; obtain ⟨ff, ⟨u, cc⟩, HP⟩ := HR2.out.put ho hg hat hb HSZ2.out; rw [show (pre ++ [((k % 16777216 : Nat) : Int)]).length = pre.length + 1 by simp] at HP; have HPH := Lib.hid HP; clear HP ho hb hg hat HR2))
      all_goals clear HAND HINT HZ2
      all_goals
        clear kc2 hl2 hlt
        go_wp2_with fail
        refine (rshF HPH.out.2.2.1.zz (n := 24) (Nat.le_trans HBK.out (by decide)) (by decide)).mono ?_
        intro e w5 hp
        have HR5 := Lib.hid (HPH.out.rest hp HNE.out (Nat.lt_succ_of_lt HSZ2.out) HE.out)
        obtain ⟨⟨rfl, hz5, hg5⟩, hf5⟩ := hp
        clear hz5 hg5 hf5 HPH ff cc
        go_wp2_with fail
        go_roundg (L (k / 16777216)).length
        case measure => exact HMS.out
        case rel => exact ⟨_, _, _, rfl, HR5⟩
end Go.Proofs.Ythanlckjfghnkaa.Mo
end
section
set_option linter.unusedVariables false
set_option linter.unusedSimpArgs false
namespace Go.Proofs.Ythanlckjfghnkaa.Mq
open Go.RowKit Go.Proofs.YthanlckjfghnkaaW.PrintWords Go.Proofs.YthanlckjfghnkaaW.PrintLast Go.Proofs.YthanlckjfghnkaaW.PrintMore Go.Proofs.Ythanlckjfghnkaa.PW Go.Proofs.Ythanlckjfghnkaa.Pc Go.Proofs.Ythanlckjfghnkaa.Ma Go.Proofs.Ythanlckjfghnkaa.Mb Go.Proofs.Ythanlckjfghnkaa.Mc Go.Proofs.Ythanlckjfghnkaa.Md Go.Proofs.Ythanlckjfghnkaa.Me Go.Proofs.Ythanlckjfghnkaa.Mi Go.Proofs.Ythanlckjfghnkaa.Mj Go.Proofs.Ythanlckjfghnkaa.Mk Go.Proofs.Ythanlckjfghnkaa.Ml Go.Proofs.Ythanlckjfghnkaa.Mn Go.Proofs.Ythanlckjfghnkaa.Mo Dg
open Pm (sgn)
def GivesC (w : World) (s : Int) (l : List Int) (c : Int) (e : Ending) (w' : World) : Prop :=
  ∃ u, e = .returned (.tuple #[.agg #[.int .i64 s, u], .int .i64 c]) ∧ Kd.R (Kd.int .i64) 2 w' w.heap.size (fun _ => True) u l ∧ Below w.heap.size w w'
set_option maxHeartbeats 1600000 in
theorem whole_yes {w : World} {q : Nat} {z : Int} (hz : Z w q z) (h1 : bl z.natAbs ≤ 2400) :
    Calls Try.prog 30 #[.pointer (some ⟨q, 0, none⟩)] w (GivesC w (sgn z) (L z.natAbs) 0) := by
  have hF := fun (W : World) (hb : Below w.heap.size w W) => fromBig_yes (hz.below hb) h1
  have HF := Lib.hid hF
  clear hF hz h1
  go_enter Try.func30, Try.ntmps30
  go_wp2_with fail
  refine (HF.out _ (Ma.below_alloc w _)).mono ?_
  rintro e w1 ⟨u, rfl, hR, hb⟩
  obtain ⟨A, c, rfl⟩ := Kd.R_slice hR
  have hB : w1.heap[w.heap.size]? = some (.cells #[.int .i64 0, .slice none 0 0] 26 (0, 0)) := (hb.block _ (by simp)).trans (heap_alloc_new w _)
  have c0 := blk_cell hB 0
  have c1 := blk_cell hB 1
  have f0 := blk_frozen hB 0
  have f1 := blk_frozen hB 1
  simp only [List.getElem?_toArray, List.getElem?_cons_zero, List.getElem?_cons_succ] at c0 c1
  have HB := Lib.hid hB
  have HR := Lib.hid (Kd.R_lower (base' := w.heap.size) hR (by simp))
  have HBL := Lib.hid (below_then (Ma.below_alloc w _) hb)
  clear hB hR hb
  have hlt : w.heap.size < w1.heap.size := (Array.getElem?_eq_some_iff.1 HB.out).1
  go_wp2
  have hB2 := blk_set (blk_set HB.out 0 (.int .i64 (sgn z))) 1 (.slice A (L z.natAbs).length c)
  have hb3 := Ma.below_alloc ((w1.setCell ⟨w.heap.size, 0, none⟩ (.int .i64 (sgn z))).setCell ⟨w.heap.size, 1, none⟩ (.slice A (L z.natAbs).length c)) (.cells #[.int .i64 (sgn z), .slice A (L z.natAbs).length c] 26)
  have hR3 := Kd.R_below (Kd.R_set (Kd.R_set HR.out HB.out (by decide) 0 (.int .i64 (sgn z))) (blk_set HB.out 0 (.int .i64 (sgn z))) (by decide) 1 (.slice A (L z.natAbs).length c)) hb3
  have hBE := below_then ((HBL.out.setCell (p := ⟨w.heap.size, 0, none⟩) (Nat.le_refl _) (.int .i64 (sgn z))).setCell (p := ⟨w.heap.size, 1, none⟩) (Nat.le_refl _) (.slice A (L z.natAbs).length c)) hb3
  exact bodyPost_ret (results_ct rfl _ _ w.heap.size 26 #[.int .i64 (sgn z), .slice A (L z.natAbs).length c] (0, 0) _ rfl ((hb3.block _ (Array.getElem?_eq_some_iff.1 hB2).1).trans hB2) Try.underlying26 rfl sizeW) rfl ⟨_, rfl, hR3, hBE⟩
set_option maxHeartbeats 1600000 in
theorem whole_no {w : World} {q : Nat} {z : Int} (hz : Z w q z) (h0 : bl z.natAbs ≤ 268435456) (h1 : ¬ bl z.natAbs ≤ 2400) :
    Calls Try.prog 30 #[.pointer (some ⟨q, 0, none⟩)] w (GivesC w 0 [] 3) := by
  have hF := fun (W : World) (hb : Below w.heap.size w W) => fromBig_no (hz.below hb) h0 h1
  have HF := Lib.hid hF
  clear hF hz h1 h0
  go_enter Try.func30, Try.ntmps30
  go_wp2_with fail
  refine (HF.out _ (Ma.below_alloc w _)).mono ?_
  rintro e w1 ⟨u, rfl, hR, hb⟩
  obtain ⟨A, c, rfl⟩ := Kd.R_slice hR
  have hB : w1.heap[w.heap.size]? = some (.cells #[.int .i64 0, .slice none 0 0] 26 (0, 0)) := (hb.block _ (by simp)).trans (heap_alloc_new w _)
  have c0 := blk_cell hB 0
  have c1 := blk_cell hB 1
  have f0 := blk_frozen hB 0
  have f1 := blk_frozen hB 1
  simp only [List.getElem?_toArray, List.getElem?_cons_zero, List.getElem?_cons_succ] at c0 c1
  have HB := Lib.hid hB
  have HBL := Lib.hid (below_then (Ma.below_alloc w _) hb)
  clear hB hR hb
  have hlt : w.heap.size < w1.heap.size := (Array.getElem?_eq_some_iff.1 HB.out).1
  go_wp2
  have hB2 := blk_set (blk_set HB.out 0 (.int .i64 0)) 1 (.slice none 0 0)
  have hb3 := Ma.below_alloc ((w1.setCell ⟨w.heap.size, 0, none⟩ (.int .i64 0)).setCell ⟨w.heap.size, 1, none⟩ (.slice none 0 0)) (.cells #[.int .i64 0, .slice A 0 c] 26)
  have hBE := below_then ((HBL.out.setCell (p := ⟨w.heap.size, 0, none⟩) (Nat.le_refl _) (.int .i64 0)).setCell (p := ⟨w.heap.size, 1, none⟩) (Nat.le_refl _) (.slice none 0 0)) hb3
  exact bodyPost_ret (results_ct rfl _ _ w.heap.size 26 #[.int .i64 0, .slice none 0 0] (0, 0) _ rfl ((hb3.block _ (Array.getElem?_eq_some_iff.1 hB2).1).trans hB2) Try.underlying26 rfl sizeW) rfl ⟨_, rfl, Kd.R_nil _ _ _ _ _, hBE⟩
end Go.Proofs.Ythanlckjfghnkaa.Mq
end
section
set_option linter.unusedVariables false
set_option linter.unusedSimpArgs false
namespace Go.Proofs.Ythanlckjfghnkaa.Mr
open Go.RowKit Go.Proofs.YthanlckjfghnkaaW.PrintWords Go.Proofs.Ythanlckjfghnkaa.PW Go.Proofs.Ythanlckjfghnkaa.Pc Go.Proofs.Ythanlckjfghnkaa.Pb Go.Proofs.Ythanlckjfghnkaa.Pw Go.Proofs.Ythanlckjfghnkaa.Ma Go.Proofs.Ythanlckjfghnkaa.Mb Go.Proofs.Ythanlckjfghnkaa.Mc Go.Proofs.Ythanlckjfghnkaa.Md Go.Proofs.Ythanlckjfghnkaa.Me Go.Proofs.Ythanlckjfghnkaa.Mg Go.Proofs.Ythanlckjfghnkaa.Mh Go.Proofs.Ythanlckjfghnkaa.Mq Dg
theorem fit_yes {z : Int} (h : bl z.natAbs ≤ 2400) : fit z = (Pm.sgn z, L z.natAbs, 0) := by unfold fit; rw [if_pos h]
theorem fit_no {z : Int} (h : ¬ bl z.natAbs ≤ 2400) : fit z = (0, [], 3) := by unfold fit; rw [if_neg h]
theorem whole {w : World} {q : Nat} {z : Int} (hz : Z w q z) (h0 : bl z.natAbs ≤ 268435456) :
    Calls Try.prog 30 #[.pointer (some ⟨q, 0, none⟩)] w (GivesC w (fit z).1 (fit z).2.1 (fit z).2.2) := by
  by_cases h : bl z.natAbs ≤ 2400
  · rw [fit_yes h]; exact whole_yes hz h
  · rw [fit_no h]; exact whole_no hz h0 h
end Go.Proofs.Ythanlckjfghnkaa.Mr
end
section
set_option linter.unusedVariables false
set_option linter.unusedSimpArgs false
namespace Go.Proofs.Ythanlckjfghnkaa.Mu
open Go.RowKit Go.Proofs.YthanlckjfghnkaaW.PrintWords Go.Proofs.Ythanlckjfghnkaa.PW Go.Proofs.Ythanlckjfghnkaa.Pc Go.Proofs.Ythanlckjfghnkaa.Pb Go.Proofs.Ythanlckjfghnkaa.Pw Go.Proofs.Ythanlckjfghnkaa.Ma Go.Proofs.Ythanlckjfghnkaa.Mb Go.Proofs.Ythanlckjfghnkaa.Mc Go.Proofs.Ythanlckjfghnkaa.Md Go.Proofs.Ythanlckjfghnkaa.Me Go.Proofs.Ythanlckjfghnkaa.Mg Go.Proofs.Ythanlckjfghnkaa.Mh Go.Proofs.Ythanlckjfghnkaa.Mq Go.Proofs.Ythanlckjfghnkaa.Mr Dg
theorem alloc_size (w : World) (o : Obj) : (w.alloc o).heap.size = w.heap.size + 1 := by simp
theorem storedW {w W : World} {g : Nat} {s : Int} {u : Value} {l : List Int} (hg : W.heap[g]? = some (.cells #[.int .i64 0, .slice none 0 0] 26 (0, 0))) (hb : Below w.heap.size w W) (hw : w.heap.size ≤ g) (hR : Kd.R (Kd.int .i64) 2 W w.heap.size (fun _ => True) u l) :
    (((W.setCell ⟨g, 0, none⟩ (.int .i64 s)).setCell ⟨g, 1, none⟩ u)).heap[g]? = some (.cells #[.int .i64 s, u] 26 (0, 0)) ∧ Kd.R (Kd.int .i64) 2 ((W.setCell ⟨g, 0, none⟩ (.int .i64 s)).setCell ⟨g, 1, none⟩ u) w.heap.size (fun _ => True) u l ∧ Below w.heap.size w ((W.setCell ⟨g, 0, none⟩ (.int .i64 s)).setCell ⟨g, 1, none⟩ u) :=
  ⟨blk_set (blk_set hg 0 _) 1 _, Kd.R_set (Kd.R_set hR hg (by decide) 0 _) (blk_set hg 0 _) (by decide) 1 _, (hb.setCell (p := ⟨g, 0, none⟩) hw _).setCell (p := ⟨g, 1, none⟩) hw _⟩
theorem cellsOf {W : World} {g : Nat} (hg : W.heap[g]? = some (.cells #[.int .i64 0, .slice none 0 0] 26 (0, 0))) : W.cell? ⟨g, 0, none⟩ = some (.int .i64 0) ∧ W.cell? ⟨g, 1, none⟩ = some (.slice none 0 0) ∧ W.frozen? ⟨g, 0, none⟩ = false ∧ W.frozen? ⟨g, 1, none⟩ = false :=
  ⟨blk_cell hg 0, blk_cell hg 1, blk_frozen hg 0, blk_frozen hg 1⟩
end Go.Proofs.Ythanlckjfghnkaa.Mu
end
section
set_option linter.unusedVariables false
set_option linter.unusedSimpArgs false
namespace Go.Proofs.Ythanlckjfghnkaa.Ta
open Go.RowKit Go.Proofs.YthanlckjfghnkaaW.PrintWords Go.Proofs.Ythanlckjfghnkaa.PW Go.Proofs.Ythanlckjfghnkaa.Pc Go.Proofs.Ythanlckjfghnkaa.Ma Go.Proofs.Ythanlckjfghnkaa.Mb Go.Proofs.Ythanlckjfghnkaa.Mc Go.Proofs.Ythanlckjfghnkaa.Md Go.Proofs.Ythanlckjfghnkaa.Me Go.Proofs.Ythanlckjfghnkaa.Mf Go.Proofs.Ythanlckjfghnkaa.Dy Dg
def Row (w : World) (g : Nat) (ys : List Int) : Prop := w.heap[g]? = some (.cells (ys.map (Value.int .u32)).toArray 94 (0, 0))
theorem Row.cell {w : World} {g : Nat} {ys : List Int} (h : Row w g ys) {k : Nat} (hk : k < ys.length) : w.cell? ⟨g, k, none⟩ = some (.int .u32 (ys.getD k 0)) ∧ w.frozen? ⟨g, k, none⟩ = false := by
  have h1 := blk_cell h k
  refine ⟨?_, blk_frozen h k⟩
  rw [h1, List.getElem?_toArray, List.getElem?_map, List.getElem?_eq_getElem hk, getD_lt hk]; rfl
theorem Row.set {w : World} {g : Nat} {ys : List Int} (h : Row w g ys) (k : Nat) (x : Int) : Row (w.setCell ⟨g, k, none⟩ (.int .u32 x)) g (ys.set k x) := by
  unfold Row
  rw [blk_set h k, nums_set]
theorem Row.lt {w : World} {g : Nat} {ys : List Int} (h : Row w g ys) : g < w.heap.size := (Array.getElem?_eq_some_iff.1 h).1
theorem Row.grown {w w1 : World} {g : Nat} {ys : List Int} (h : Row w g ys) {q : Option Nat} (hg : w.grownBy w1 q) (hne : some g ≠ q) : Row w1 g ys := (hg.block g h.lt hne).trans h
theorem Row.below {w w1 : World} {g B : Nat} {ys : List Int} (h : Row w g ys) (hb : Below B w w1) (hlt : g < B) : Row w1 g ys := (hb.block g hlt).trans h
end Go.Proofs.Ythanlckjfghnkaa.Ta
end
section
set_option linter.unusedVariables false
set_option linter.unusedSimpArgs false
namespace Go.Proofs.Ythanlckjfghnkaa.Tb
open Go.RowKit Go.Proofs.YthanlckjfghnkaaW.PrintWords Go.Proofs.Ythanlckjfghnkaa.PW Go.Proofs.Ythanlckjfghnkaa.Pc Go.Proofs.Ythanlckjfghnkaa.Ma Go.Proofs.Ythanlckjfghnkaa.Mb Go.Proofs.Ythanlckjfghnkaa.Mc Go.Proofs.Ythanlckjfghnkaa.Md Go.Proofs.Ythanlckjfghnkaa.Me Go.Proofs.Ythanlckjfghnkaa.Mf Go.Proofs.Ythanlckjfghnkaa.Dy Go.Proofs.Ythanlckjfghnkaa.Ta Dg
def Own (w : World) (g : Nat) (xs : List Int) : Prop := ∃ cur : Array Value, w.heap[g]? = some (.cells cur 94 (0, 0)) ∧ ∀ k, k < xs.length → cur[k]? = some (.int .u32 (xs.getD k 0))
section
variable {w w1 : World} {g : Nat} {xs : List Int}
theorem Own.cell (h : Own w g xs) {k : Nat} (hk : k < xs.length) : w.cell? ⟨g, k, none⟩ = some (.int .u32 (xs.getD k 0)) ∧ w.frozen? ⟨g, k, none⟩ = false := by
  obtain ⟨cur, hb, hc⟩ := h
  exact ⟨(blk_cell hb k).trans (hc k hk), blk_frozen hb k⟩
theorem Own.lt (h : Own w g xs) : g < w.heap.size := by
  obtain ⟨cur, hb, hc⟩ := h
  exact (Array.getElem?_eq_some_iff.1 hb).1
theorem Own.set (h : Own w g xs) {k : Nat} (hk : k < xs.length) (x : Int) : Own (w.setCell ⟨g, k, none⟩ (.int .u32 x)) g (xs.set k x) := by
  obtain ⟨cur, hb, hc⟩ := h
  refine ⟨_, blk_set hb k _, fun j hj => ?_⟩
  rw [List.length_set] at hj
  have hs : k < cur.size := by
    have := hc k hk
    exact (Array.getElem?_eq_some_iff.1 this).1
  by_cases e : j = k
  · subst e
    rw [Array.getElem?_setIfInBounds_self_of_lt hs, Dg.getD_set_eq hk]
  · rw [Array.getElem?_setIfInBounds_ne (by omega), Dg.getD_set_ne (by omega)]
    exact hc j hj
theorem Own.far (h : Own w g xs) {p : Addr} (hp : g ≠ p.block) (u : Value) : Own (w.setCell p u) g xs := by
  obtain ⟨cur, hb, hc⟩ := h
  exact ⟨cur, blk_far hb hp u, hc⟩
theorem Own.grown (h : Own w g xs) {q : Option Nat} (hg : w.grownBy w1 q) (hne : some g ≠ q) : Own w1 g xs := by
  obtain ⟨cur, hb, hc⟩ := h
  exact ⟨cur, (hg.block g (Array.getElem?_eq_some_iff.1 hb).1 hne).trans hb, hc⟩
theorem Own.below (h : Own w g xs) {B : Nat} (hb : Below B w w1) (hlt : g < B) : Own w1 g xs := by
  obtain ⟨cur, hc, h2⟩ := h
  exact ⟨cur, (hb.block g hlt).trans hc, h2⟩
theorem Own.kept (h : Own w g xs) (hb : Below w.heap.size w w1) : Own w1 g xs := h.below hb h.lt
theorem Own.take (h : Own w g xs) (m : Nat) : Own w g (xs.take m) := by
  obtain ⟨cur, hb, hc⟩ := h
  refine ⟨cur, hb, fun k hk => ?_⟩
  rw [List.length_take] at hk
  rw [hc k (by omega), getD_lt (l := xs) (by omega), getD_lt (l := xs.take m) (by rw [List.length_take]; omega), List.getElem_take]
end
end Go.Proofs.Ythanlckjfghnkaa.Tb
end
section
set_option linter.unusedVariables false
set_option linter.unusedSimpArgs false
namespace Go.Proofs.Ythanlckjfghnkaa.Tc
open Go.RowKit Go.Proofs.YthanlckjfghnkaaW.PrintWords Go.Proofs.Ythanlckjfghnkaa.PW Go.Proofs.Ythanlckjfghnkaa.Pc Go.Proofs.Ythanlckjfghnkaa.Ma Go.Proofs.Ythanlckjfghnkaa.Mb Go.Proofs.Ythanlckjfghnkaa.Mc Go.Proofs.Ythanlckjfghnkaa.Md Go.Proofs.Ythanlckjfghnkaa.Me Go.Proofs.Ythanlckjfghnkaa.Mf Go.Proofs.Ythanlckjfghnkaa.Dy Go.Proofs.Ythanlckjfghnkaa.Ta Go.Proofs.Ythanlckjfghnkaa.Tb Dg Go.Proofs.Ythanlckjfghnkaa.Dv Go.Proofs.Ythanlckjfghnkaa.Dw Go.Proofs.Ythanlckjfghnkaa.Dx Go.Proofs.Ythanlckjfghnkaa.Du
theorem D_small {b : Nat} (h0 : b ≠ 0) (h1 : b < 4294967296) : D b = [(b : Int)] := by
  refine (D_eq (l := [(b : Int)]) (Dig.cons (by omega) (by show (b : Int) < 4294967296; omega) Dig.nil) (by intro _ h; simp at h; omega) ?_).symm
  simp [val_cons, val_nil]
end Go.Proofs.Ythanlckjfghnkaa.Tc
end
section
namespace Go.Proofs.Ythanlckjfghnkaa.Te
end Go.Proofs.Ythanlckjfghnkaa.Te
end
section
namespace Go.Proofs.Ythanlckjfghnkaa.Td
end Go.Proofs.Ythanlckjfghnkaa.Td
end
section
namespace Go.Proofs.Ythanlckjfghnkaa.Tf
end Go.Proofs.Ythanlckjfghnkaa.Tf
end
section
set_option linter.unusedVariables false
set_option linter.unusedSimpArgs false
namespace Go.Proofs.Ythanlckjfghnkaa.Tv
open Go.RowKit Go.Proofs.YthanlckjfghnkaaW.PrintWords Go.Proofs.Ythanlckjfghnkaa.PW Go.Proofs.Ythanlckjfghnkaa.Pb Go.Proofs.Ythanlckjfghnkaa.Pc Go.Proofs.Ythanlckjfghnkaa.Ma Go.Proofs.Ythanlckjfghnkaa.Mb Go.Proofs.Ythanlckjfghnkaa.Mc Go.Proofs.Ythanlckjfghnkaa.Md Go.Proofs.Ythanlckjfghnkaa.Me Go.Proofs.Ythanlckjfghnkaa.Mf Go.Proofs.Ythanlckjfghnkaa.Ta Go.Proofs.Ythanlckjfghnkaa.Tb Go.Proofs.Ythanlckjfghnkaa.Tc Go.Proofs.Ythanlckjfghnkaa.Tf Go.Proofs.Ythanlckjfghnkaa.Tu Dg Go.Proofs.Ythanlckjfghnkaa.Dv Go.Proofs.Ythanlckjfghnkaa.Dw Go.Proofs.Ythanlckjfghnkaa.Dx Go.Proofs.Ythanlckjfghnkaa.Du
theorem rz_all {a : ByteArray} (n : Nat) : (if ng a = true then -((vd (bd a) n : Nat) : Int) else ((vd (bd a) n : Nat) : Int)) = rz a n := by
  unfold rz sg
  split
  · rw [Int.neg_mul, Int.one_mul]
  · rw [Int.one_mul]
theorem rowA {W : World} {x y : Int} (h : y = x) : Mg (W.alloc (.cells #[.int .u32 y] 94)).drew (some ⟨W.heap.size, 0, none⟩) 1 [x] :=
  Mg.row (xs := [x]) (heap_alloc_new W _) (by rw [h]; rfl) (by simp)
theorem rowN {W : World} {x y : Int} (h : y = x) : Mg (W.alloc (.cells #[.int .u32 y] 94)) (some ⟨W.heap.size, 0, none⟩) 1 [x] :=
  Mg.row (xs := [x]) (heap_alloc_new W _) (by rw [h]; rfl) (by simp)
theorem rowB {W : World} {x y : Int} {o : Obj} (h : y = x) : Mg ((W.alloc (.cells #[.int .u32 y] 94)).alloc o).drew (some ⟨W.heap.size, 0, none⟩) 1 [x] :=
  (rowN h).below (Ma.below_alloc _ o).drew
theorem rowC {W : World} {x y : Int} {o : Obj} (h : y = x) : Mg ((W.alloc o).alloc (.cells #[.int .u32 y] 94)).drew (some ⟨W.heap.size + 1, 0, none⟩) 1 [x] := by
  have := rowA (W := W.alloc o) h
  simpa using this
theorem belB {W : World} {o o2 : Obj} : Below W.heap.size W ((W.alloc o).alloc o2).drew := (below_then (Ma.below_alloc W o) (Ma.below_alloc _ o2)).drew
theorem fin {s : ByteArray} {t d c3 : Nat} {A3 : Option Addr} {w w3 : World} (htt : t < s.size) (hs : s.size ≤ 800) (h3 : vd s (t + 1) = vd s t * 10 + d) (HM3 : Hid (Mg w3 A3 c3 (D (vd s t * 10 + d)))) (HB3 : Hid (Below w.heap.size w w3)) :
    (∃ (t_1 : Nat) (A : Option Addr) (c : Nat), Value.int .i64 (wrap64 ((t : Int) + 1)) = Value.int .i64 (t_1 : Int) ∧ Value.slice A3 (D (vd s t * 10 + d)).length c3 = Value.slice A (D (vd s t_1)).length c ∧ t_1 ≤ s.size ∧ Hid (Mg w3 A c (D (vd s t_1))) ∧ Hid (Below w.heap.size w w3)) ∧ ((s.size : Int) - intOf (Value.int .i64 (wrap64 ((t : Int) + 1)))).toNat < ((s.size : Int) - intOf (Value.int .i64 (t : Int))).toNat := by
  have hw : wrap64 ((t : Int) + 1) = ((t + 1 : Nat) : Int) := wrapN t (by omega)
  rw [hw]
  refine ⟨⟨t + 1, A3, c3, rfl, ?_, htt, ?_, HB3⟩, ?_⟩
  · rw [h3]
  · rw [h3]; exact HM3
  · show ((s.size : Int) - ((t + 1 : Nat) : Int)).toNat < ((s.size : Int) - (t : Int)).toNat
    omega
set_option maxHeartbeats 6000000 in
set_option maxRecDepth 100000 in
theorem setString {w : World} {p : Nat} {a : ByteArray} (hp : Blk w p) (hok : ok a = true) (hs : a.size ≤ 800) :
    Calls Try.prog 39 #[.pointer (some ⟨p, 0, none⟩), .string a, .int .i64 10] w (fun e w' => e = .returned (.tuple #[.pointer (some ⟨p, 0, none⟩), .bool true]) ∧ Z w' p (rz a (bd a).size) ∧ w.grownBy w' (some p)) := by
  have hex := ex_size a
  have hb : (bd a).size ≤ 800 := by unfold bd; split <;> omega
  have hok' := hok
  unfold ok at hok'
  obtain ⟨hH, hD⟩ := of_decide_eq_true hok'
  have h0 : 0 < (bd a).size := Nat.pos_of_ne_zero fun h => hH (.inl h)
  have ha0 : 0 < a.size := by
    have : (bd a).size ≤ a.size := by unfold bd; split <;> omega
    omega
  have hD10 : D 10 = [((10 : Nat) : Int)] := D_small (by decide) (by decide)
  have hl10 : (D 10).length = 1 := by rw [hD10]; rfl
  have hb10 : bl 10 ≤ 4 := bl_le (by decide)
  have hmul : ∀ (W : World) (A : Option Addr) (c v g : Nat), Mg W A c (D v) → Mg W (some ⟨g, 0, none⟩) 1 [10] → bl v ≤ 4000 → Calls Try.prog 74 #[.slice A (D v).length c, .slice (some ⟨g, 0, none⟩) 1 1] W (GivesMg W (v * 10)) := by
    intro W A c v g hm ht hv
    have e : ([10] : List Int) = D 10 := by rw [hD10]; rfl
    rw [e] at ht
    have := cMul hm ht (by omega)
    rw [hl10] at this
    exact this
  have htrim : ∀ (W : World) (d g : Nat), d < 10 → Mg W (some ⟨g, 0, none⟩) 1 [(d : Int)] → Calls Try.prog 75 #[.slice (some ⟨g, 0, none⟩) 1 1] W (GivesMg W d) := by
    intro W d g hd hm
    have := cTrim hm (Dig.cons (by omega) (by show (d : Int) < 4294967296; omega) Dig.nil) (by simp)
    rw [show (val 4294967296 [(d : Int)]).toNat = d by rw [val_cons, val_nil, Int.mul_zero, Int.add_zero, Int.toNat_natCast]] at this
    exact this
  have hdg : ∀ t : Nat, t < (bd a).size → ∃ d : Nat, bt (bd a) (t : Int) = 48 + (d : Int) ∧ d < 10 ∧ vd (bd a) (t + 1) = vd (bd a) t * 10 + d := by
    intro t ht
    have := hD t ht
    exact ⟨(bt (bd a) (t : Int) - 48).toNat, by omega, by omega, rfl⟩
  have hput : ∀ (w1 : World) (A : Option Addr) (c : Nat), Below w.heap.size w w1 → Mg w1 A c (D (vd (bd a) (bd a).size)) → Calls Try.prog 62 #[.pointer (some ⟨p, 0, none⟩), .bool (ng a), .slice A (D (vd (bd a) (bd a).size)).length c] w1 (Puts w p (rz a (bd a).size)) := by
    intro w1 A c h1 h2
    have := put_of (neg := ng a) hp h1 h2 (by have := vd_bl hD (bd a).size (Nat.le_refl _); omega)
    rwa [rz_all] at this
  have hbl : ∀ t : Nat, t ≤ (bd a).size → bl (vd (bd a) t) ≤ 4000 := fun t ht => by have := vd_bl hD t ht; omega
  have hne : a.toList.isEmpty = false := by
    cases h : a.toList with
    | nil => have := toList_nil.1 h; omega
    | cons x l => rfl
  have hne2 : (bd a).toList.isEmpty = false := by
    cases h : (bd a).toList with
    | nil => have := toList_nil.1 h; omega
    | cons x l => rfl
  have hx : ∀ h : 0 < a.size, ((a[0]'h).toNat : Int) = bt a 0 := bt_at a 0
  have qi : (0 < (a.size : Int)) = True := eq_true (by omega)
  have q0 : (0 < a.size) = True := eq_true ha0
  have heq45 : (bt a 0 == 45) = ng a := by unfold ng; rw [decide_eq_true ha0, Bool.true_and]
  have heq43 : ng a = false → (bt a 0 == 43) = false := by
    intro h
    apply beq_eq_false_iff_ne.mpr
    have h1 := hD 0 h0
    have h2 : bd a = a := by unfold bd; rw [h]; rfl
    rw [h2] at h1
    have : bt a ((0 : Nat) : Int) = bt a 0 := rfl
    omega
  have hbd : bd a = if ng a = true then a.extract 1 a.size else a := rfl
  have HMU := Lib.hid hmul
  have HTR := Lib.hid htrim
  have HDG := Lib.hid hdg
  have HPU := Lib.hid hput
  have HBL := Lib.hid hbl
  have HSZ := Lib.hid hb
  have HS0 := Lib.hid h0
  have HBD := Lib.hid hbd
  have HNE := Lib.hid hne2
  have hsl : (1 ≤ (a.size : Int)) = True := eq_true (by omega)
  clear hmul htrim hdg hput hbl hb h0 hex hok hok' hH hD hD10 ha0 hs hne2 hbd
  generalize bd a = s at *
  generalize rz a s.size = z at *
  go_enter Try.func39, Try.ntmps39
  go_upto_region 1 with (fail)
  go_cut [8] (fun v8 wc => v8 = .bool (ng a) ∧ Drawn0 w wc)
  case first =>
    clear HMU HTR HDG HPU HBL HBD HNE
    go_wp2
    go_meet
    case rel => exact ⟨by first | rfl | (simp; done) | (simp [*]; done), by repeat (first | exact Drawn0.refl _ | apply Drawn0.step)⟩
  case rest =>
    obtain ⟨rfl, ⟨m1, rfl⟩⟩ := hcut
    go_upto_region 2 with (fail)
    go_cut [29] (fun v29 wc => v29 = .bool (ng a) ∧ Drawn0 w wc)
    case first =>
      clear HMU HTR HDG HPU HBL HBD HNE
      rcases Bool.eq_false_or_eq_true (ng a) with hg | hg
      · rw [hg] at heq45
        have HG := Lib.hid hg
        clear hg
        go_wp2
        go_meet
        case rel => exact ⟨by rw [HG.out], by repeat (first | exact Drawn0.refl _ | apply Drawn0.step)⟩
      · have h43 := heq43 hg
        rw [hg] at heq45
        have HG := Lib.hid hg
        clear hg
        go_wp2
        go_meet
        case rel => exact ⟨by rw [HG.out], by repeat (first | exact Drawn0.refl _ | apply Drawn0.step)⟩
    case rest =>
      obtain ⟨rfl, ⟨m2, rfl⟩⟩ := hcut
      clear heq43 heq45 hx qi q0 hne
      go_upto_if 29 with (fail)
      go_cut [1, 8] (fun v1 v8 wc => v1 = .string s ∧ v8 = .bool (ng a) ∧ Drawn0 w wc)
      case first =>
        clear HMU HTR HDG HPU HBL HNE
        cases hg : ng a with
        | false =>
          have hs : s = a := by rw [HBD.out, hg]; rfl
          clear HBD
          subst hs
          go_wp2
          go_meet
          case rel => exact ⟨rfl, by rw [hg], by repeat (first | exact Drawn0.refl _ | apply Drawn0.step)⟩
        | true =>
          have hs : s = a.extract 1 a.size := by rw [HBD.out, hg]; rfl
          clear HBD
          go_wp2
          go_meet
          case rel => exact ⟨by rw [hs], by rw [hg], by repeat (first | exact Drawn0.refl _ | apply Drawn0.step)⟩
      case rest =>
        obtain ⟨rfl, rfl, ⟨m3, rfl⟩⟩ := hcut
        have HB3 := Lib.hid (show ∀ n : Nat, Below w.heap.size w ((w.drewN n).alloc (.cells #[] 94)) from fun n => below_then (below_drawn n) (Ma.below_alloc (w.drewN n) _))
        have HM0 := Lib.hid (show ∀ W : World, Mg (W.alloc (.cells #[] 94)) (some ⟨W.heap.size, 0, none⟩) 0 (D (vd s 0)) from fun W => by
          show Mg _ _ _ (D 0)
          rw [D_zero]
          exact Mg.row (xs := []) (heap_alloc_new W _) rfl (by simp))
        have hD0 : (D (vd s 0)).length = 0 := by show (D 0).length = 0; rw [D_zero]; rfl
        clear hsl HBD
        have hs0 := HS0.out
        go_upto_region 5 with (fail)
        go_wp2_with fail
        go_loopw [9, 35] (fun m i wr => ∃ (t : Nat) (A : Option Addr) (c : Nat), i = .int .i64 (t : Int) ∧ m = .slice A (D (vd s t)).length c ∧ t ≤ s.size ∧ Hid (Mg wr A c (D (vd s t))) ∧ Hid (Below w.heap.size w wr)) (fun _ i _ => (s.size - intOf i).toNat)
        case atStart =>
          exact ⟨0, _, _, rfl, by rw [hD0]; rfl, by omega, Lib.hid (HM0.out _), Lib.hid (HB3.out _)⟩
        case round =>
          clear HM0 HB3 hD0
          obtain ⟨t, A, c, rfl, rfl, ht, HM, HB⟩ := hrel
          by_cases htt : t < s.size
          · obtain ⟨d, hd1, hd2, hd3⟩ := HDG.out t htt
            have p1 : (0 ≤ (t : Int)) = True := eq_true (by omega)
            have q1 : ((t : Int) < (s.size : Int)) = True := eq_true (by omega)
            have hx1 : ∀ h : t < s.size, ((s[t]'h).toNat : Int) = 48 + (d : Int) := fun h => (bt_at s (t : Int) h).trans hd1
            have q2 : (t < s.size) = True := eq_true htt
            have c1 : decide (48 + (d : Int) < 48) = false := decide_eq_false (by omega)
            have c2 : decide (57 < 48 + (d : Int)) = false := decide_eq_false (by omega)
            have H3 := Lib.hid hd3
            have hbv := HBL.out t ht
            have hbv2 := HBL.out (t + 1) htt
            have HBV := Lib.hid hbv
            have HBV2 := Lib.hid hbv2
            clear hd1 hd3 hbv hbv2
            have HMB := Lib.hid (show bl (vd s t * 10) ≤ 1073741823 by have := bl_mul_le (vd s t) 10; have := HBV.out; omega)
            have HDB := Lib.hid (show bl d ≤ 1073741823 from Nat.le_trans (bl_le (k := 4) (by omega)) (by decide))
            go_wp2_with fail
            clear HPU HNE HS0
            clear c1 c2 hp hl10 hb10 hs0
            have hbe1 : ∀ o, Below wr.heap.size wr (wr.alloc o).drew := fun o => (Ma.below_alloc wr o).drew
            have HBE1 := Lib.hid hbe1
            have HW10 := Lib.hid (show IntKind.u32.wrap 10 = 10 by rw [IntKind.wrap_u32]; rfl)
            have HWD := Lib.hid (show IntKind.u32.wrap (IntKind.u8.wrap (48 + (d : Int) - 48)) = (d : Int) by rw [IntKind.wrap_u8, IntKind.wrap_u32]; omega)
            clear hbe1
            go_region_held3 (fun _ => True) (exact True.intro) (first | (go_at_call 74; refine Calls.mono (HMU.out _ A c (vd s t) _ (HM.out.below (by first | with_reducible exact HBE1.out _ | with_reducible exact belB)) (by first | with_reducible exact rowA HW10.out | with_reducible exact rowB HW10.out | with_reducible exact rowC HW10.out) HBV.out) ?_; rintro e w1 ⟨A1, c1, rfl, hm1, hb1⟩; have HM1 := Lib.hid hm1; (first | (with_reducible have HMD := Lib.hid (Mg.below (rowC HWD.out) hb1)) | (with_reducible have HMD := Lib.hid (Mg.below (rowB HWD.out) hb1)) | skip); have HB1 := Lib.hid (below_then (by first | with_reducible exact HBE1.out _ | with_reducible exact belB) hb1); clear hm1 hb1) | (go_at_call 75; refine Calls.mono (HTR.out _ d _ hd2 (by first | with_reducible exact rowN HWD.out | with_reducible exact HMD.out)) ?_; rintro e w2 ⟨A2, c2, rfl, hm2, hb2⟩; (first | have HM12 := Lib.hid ((HM1.out.below (Ma.below_alloc w1 _)).below hb2) | have HM12 := Lib.hid (HM1.out.below hb2)); have HM2 := Lib.hid hm2; (first | have HB2 := Lib.hid (below_then (below_then HB1.out (Ma.below_alloc w1 _)) hb2) | have HB2 := Lib.hid (below_then HB1.out hb2)); clear hm2 hb2) | (go_at_call 73; refine Calls.mono (cAdd HM12.out HM2.out HMB.out HDB.out) ?_; rintro e w3 ⟨A3, c3, rfl, hm3, hb3⟩; have HM3 := Lib.hid hm3; have HB3 := Lib.hid (below_then HB.out (below_then HB2.out hb3)); clear hm3 hb3))
            all_goals clear HMU HTR HDG HM HB HB1 HM1 HM12 HM2 HB2 HMB HDB HBE1 HW10 HWD HBV HBV2 HBL
            all_goals go_wp2
            all_goals exact fin htt HSZ.out H3.out HM3 HB3
          · obtain rfl : t = s.size := by omega
            have q1 : ((s.size : Int) < (s.size : Int)) = False := eq_false (by omega)
            have HPP := Lib.hid (HPU.out wr A c HB.out HM.out)
            have hne3 := HNE.out
            clear HMU HTR HDG HM HBL HPU
            generalize (D (vd s s.size)).length = ln at *
            go_wp2_with fail
            refine HPP.out.mono ?_
            rintro e w2 ⟨rfl, hz2, hg2⟩
            have HE := Lib.hid (And.intro hz2 hg2)
            clear hz2 hg2
            go_wp2
            go_ret2
            exact ⟨rfl, HE.out⟩
end Go.Proofs.Ythanlckjfghnkaa.Tv
end
section
set_option linter.unusedVariables false
set_option linter.unusedSimpArgs false
namespace Go.Proofs.Ythanlckjfghnkaa.PW
open Go.RowKit Go.Proofs.YthanlckjfghnkaaW.PrintWords Go.Proofs.Ythanlckjfghnkaa.Pc Go.Proofs.Ythanlckjfghnkaa.Pb Go.Proofs.Ythanlckjfghnkaa.Pw Go.Proofs.Ythanlckjfghnkaa.Ma Go.Proofs.Ythanlckjfghnkaa.Mb Go.Proofs.Ythanlckjfghnkaa.Mc Go.Proofs.Ythanlckjfghnkaa.Md Go.Proofs.Ythanlckjfghnkaa.Me Go.Proofs.Ythanlckjfghnkaa.Mg Go.Proofs.Ythanlckjfghnkaa.Mh Go.Proofs.Ythanlckjfghnkaa.Mn Go.Proofs.Ythanlckjfghnkaa.Mq Go.Proofs.Ythanlckjfghnkaa.Mr Go.Proofs.Ythanlckjfghnkaa.Mu Go.Proofs.Ythanlckjfghnkaa.Tu Dg
def impl_ParseWhole.f (a0 : ByteArray) : Option (Int × List Int × Int) := if a0.size ≤ 9223372036854775807 then some (if ok a0 = true then (if a0.size ≤ 800 then fit (rz a0 (bd a0).size) else (0, [], 3)) else (0, [], 6)) else none
theorem resultBox (w : World) : ∀ W, Below (w.heap.size + 1) (w.alloc (.cells #[.int .i64 0, .slice none 0 0] 26)) W →
    Below w.heap.size w W ∧ (w.heap.size + 1 ≤ W.heap.size ∧ w.heap.size < W.heap.size) ∧ W.heap[w.heap.size]? = some (.cells #[.int .i64 0, .slice none 0 0] 26 (0, 0)) := by
  intro W hW
  have h1 := (hW.block w.heap.size (by omega)).trans (heap_alloc_new w _)
  have h2 := hW.size
  rw [alloc_size] at h2
  exact ⟨(Ma.below_alloc w _).trans (hW.mono (by omega)), ⟨h2, by omega⟩, h1⟩
theorem boxDrawn (w : World) (o : Obj) (n : Nat) : Below (w.heap.size + 1) (w.alloc o) ((w.alloc o).drewN n) :=
  (below_drawn (w := w.alloc o) n).mono (by rw [alloc_size]; exact Nat.le_refl _)
set_option maxHeartbeats 1600000 in
theorem impl_ParseWhole.calls (a0 : ByteArray) (r1 : Int) (r2 : List Int) (r3 : Int) (w : World) (h : impl_ParseWhole.f a0 = some (r1, r2, r3)) :
    Calls Try.prog 15 #[.string a0] w fun e w' => ∃ v1_ : Value, e = .returned (.tuple #[.agg #[.int .i64 r1, v1_], .int .i64 r3]) ∧ Kd.R (Kd.int .i64) 2 w' w.heap.size (fun _ => True) v1_ r2 ∧ Below w.heap.size w w' := by
  unfold impl_ParseWhole.f at h
  by_cases hs : a0.size ≤ 9223372036854775807
  · rw [if_pos hs] at h
    obtain ⟨k, hk⟩ := Ev.rounds (numeral a0 hs)
    have hI := fun (W : World) => impl_isNumeral.calls k a0 _ W hk
    have HBW := Lib.hid (resultBox w)
    cases hok : ok a0 with
    | false =>
      rw [hok] at h hI
      rw [if_neg (by simp)] at h
      obtain ⟨rfl, h2⟩ := Prod.mk.inj (Option.some.inj h)
      obtain ⟨rfl, rfl⟩ := Prod.mk.inj h2
      have HI := Lib.hid hI
      clear h h2 hI hk hok
      go_enter Try.func15, Try.ntmps15
      go_wp2_with fail
      refine (HI.out _).mono ?_
      rintro e w1 ⟨rfl, n1, rfl⟩
      obtain ⟨h1', ⟨hs1, i0⟩, hbx⟩ := HBW.out _ (boxDrawn w _ n1)
      have HB1 := Lib.hid h1'
      have HBX := Lib.hid hbx
      obtain ⟨e0, e1, f0, f1⟩ := cellsOf hbx
      clear h1' hbx
      go_wp2
      have hst := storedW (s := 0) (u := .slice none 0 0) HBX.out HB1.out (Nat.le_refl _) (Kd.R_nil _ _ _ _ _)
      exact bodyPost_ret (results_ct rfl _ _ w.heap.size 26 #[.int .i64 0, .slice none 0 0] (0, 0) _ rfl hst.1 Try.underlying26 rfl sizeW) rfl ⟨_, rfl, hst.2.1, hst.2.2⟩
    | true =>
      rw [hok] at h hI
      rw [if_pos rfl] at h
      by_cases h8 : a0.size ≤ 800
      · rw [if_pos h8] at h
        have h1 := Option.some.inj h
        have hbl := rz_bl a0 hok (bd a0).size (Nat.le_refl _)
        have hbd : (bd a0).size ≤ 800 := by
          have := ex_size a0
          unfold bd
          split <;> omega
        have hS := fun (W : World) (p : Nat) (hp : Blk W p) => Tv.setString hp hok h8
        have hW := fun (W : World) (p : Nat) (hz : Z W p (rz a0 (bd a0).size)) => Mr.whole hz (by omega)
        rw [h1] at hW
        generalize rz a0 (bd a0).size = z at *
        have HI := Lib.hid hI
        have HS := Lib.hid hS
        have HW := Lib.hid hW
        have c800 : decide (800 < (a0.size : Int)) = false := decide_eq_false (by omega)
        clear h h1 hI hk hok hS hW hbl hbd
        go_enter Try.func15, Try.ntmps15
        go_wp2_with fail
        refine (HI.out _).mono ?_
        rintro e w1 ⟨rfl, n1, rfl⟩
        have HB1 := Lib.hid (show Below (w.heap.size + 1) (w.alloc (.cells #[.int .i64 0, .slice none 0 0] 26)) _ from boxDrawn w _ n1)
        obtain ⟨h1', ⟨hs1, i0⟩, hbx⟩ := HBW.out _ HB1.out
        have HB2 := Lib.hid h1'
        clear h1' hbx
        generalize (w.alloc (.cells #[.int .i64 0, .slice none 0 0] 26)).drewN n1 = W1 at *
        go_wp2_with fail
        refine (HS.out (W1.alloc (.cells #[.bool false, .slice none 0 0] 57)) W1.heap.size (Z.new W1).blk).mono ?_
        rintro e w2 ⟨rfl, hz, hg⟩
        have HZ := Lib.hid hz
        have HB3 := Lib.hid (HB1.out.trans ((below_grown (Ma.below_alloc W1 _) hg (Nat.le_refl _)).mono hs1))
        clear hz hg HS HI
        go_wp2_with fail
        refine (HW.out _ _ HZ.out).mono ?_
        rintro e w3 ⟨u, rfl, hR, hb⟩
        obtain ⟨A, c, rfl⟩ := Kd.R_slice hR
        have hs2 := (HBW.out _ HB3.out).2.1.1
        obtain ⟨h1', ⟨hs3, i3⟩, hbx⟩ := HBW.out _ (HB3.out.trans (hb.mono hs2))
        obtain ⟨e0, e1, f0, f1⟩ := cellsOf hbx
        have HB4 := Lib.hid h1'
        have HBX := Lib.hid hbx
        have HR := Lib.hid (Kd.R_lower (base' := w.heap.size) hR (by omega))
        clear hR hb h1' hbx HZ HB3 HW
        go_wp2
        have hst := storedW (s := r1) (u := .slice A r2.length c) HBX.out HB4.out (Nat.le_refl _) HR.out
        exact bodyPost_ret (results_ct rfl _ _ w.heap.size 26 #[.int .i64 r1, .slice A r2.length c] (0, 0) _ rfl hst.1 Try.underlying26 rfl sizeW) rfl ⟨_, rfl, hst.2.1, hst.2.2⟩
      · rw [if_neg h8] at h
        obtain ⟨rfl, h2⟩ := Prod.mk.inj (Option.some.inj h)
        obtain ⟨rfl, rfl⟩ := Prod.mk.inj h2
        have HI := Lib.hid hI
        have c800 : decide (800 < (a0.size : Int)) = true := decide_eq_true (by omega)
        clear h h2 hI hk hok
        go_enter Try.func15, Try.ntmps15
        go_wp2_with fail
        refine (HI.out _).mono ?_
        rintro e w1 ⟨rfl, n1, rfl⟩
        obtain ⟨h1', ⟨hs1, i0⟩, hbx⟩ := HBW.out _ (boxDrawn w _ n1)
        have HB1 := Lib.hid h1'
        have HBX := Lib.hid hbx
        obtain ⟨e0, e1, f0, f1⟩ := cellsOf hbx
        clear h1' hbx
        go_wp2
        have hst := storedW (s := 0) (u := .slice none 0 0) HBX.out HB1.out (Nat.le_refl _) (Kd.R_nil _ _ _ _ _)
        exact bodyPost_ret (results_ct rfl _ _ w.heap.size 26 #[.int .i64 0, .slice none 0 0] (0, 0) _ rfl hst.1 Try.underlying26 rfl sizeW) rfl ⟨_, rfl, hst.2.1, hst.2.2⟩
  · rw [if_neg hs] at h
    cases h
end Go.Proofs.Ythanlckjfghnkaa.PW
end
section
namespace Go.Proofs.Ythanlckjfghnkaa.PW
open Go.RowKit Go.Proofs.YthanlckjfghnkaaW.PrintWords Go.Proofs.YthanlckjfghnkaaW.PrintLast Go.Proofs.YthanlckjfghnkaaW.PrintMore
attribute [local go_sem] max2_int min2_int max_two min_two max_three min_three max_four min_four   -- for this text's walks alone
set_option linter.unusedVariables false
set_option linter.unusedSimpArgs false
mutual
def laws_FnExactParseWhole.j0 : Nat → ByteArray → Int → Bool → Int → List Int → Int → List Int → Option (Bool)
  | 0, _, _, _, _, _, _, _ => none
  | k + 1, x0, x4, x32, x227000, x227001, x233000, x233001 => if x32 = true then (some false) else ((laws_markWhole.f k x233000 x233001 1).bind fun bt234 => ((laws_heldWhole.f k x233000 bt234.2 1).bind fun t236 => (if t236 < 0 then (some false) else (if t236 = bt234.1 then ((impl_ParseWhole.f x0).bind fun bt237 => ((laws_eqWhole.f k bt237.1 bt237.2.1 x227000 x227001).bind fun t243 => (if t243 = true then (laws_FnExactParseWhole.j1 k bt234.1 (bt237.2.2 != x4) x233000 bt234.2) else (laws_FnExactParseWhole.j1 k bt234.1 true x233000 bt234.2)))) else (some false)))))
def laws_FnExactParseWhole.j1 : Nat → Int → Bool → Int → List Int → Option (Bool)
  | 0, _, _, _, _ => none
  | k + 1, x7, x57, x233000, x233001 => if x57 = true then (some false) else ((laws_heldWhole.f k x233000 x233001 1).bind fun t244 => (if t244 < 0 then (some false) else (if t244 = x7 then (some true) else (some false))))
end
def laws_FnExactParseWhole.f (k : Nat) (a0 : ByteArray) : Option (Bool) := if (a0.size : Int) > 1048576 then (some true) else ((spec_ParseWhole.f k a0).bind fun bt221 => ((impl_ParseWhole.f a0).bind fun bt227 => ((laws_eqWhole.f k bt227.1 bt227.2.1 bt221.1 bt221.2.1).bind fun t233 => (if t233 = true then (laws_FnExactParseWhole.j0 k a0 bt221.2.2 (bt227.2.2 != bt221.2.2) bt221.1 bt221.2.1 bt227.1 bt227.2.1) else (laws_FnExactParseWhole.j0 k a0 bt221.2.2 true bt221.1 bt221.2.1 bt227.1 bt227.2.1)))))
theorem laws_FnExactParseWhole.mono_l : ∀ k, (∀ y0 y1 y2 y3 y4 y5 y6, LeO (laws_FnExactParseWhole.j0 k y0 y1 y2 y3 y4 y5 y6) (laws_FnExactParseWhole.j0 (k + 1) y0 y1 y2 y3 y4 y5 y6)) ∧ (∀ y0 y1 y2 y3, LeO (laws_FnExactParseWhole.j1 k y0 y1 y2 y3) (laws_FnExactParseWhole.j1 (k + 1) y0 y1 y2 y3))
  | 0 => ⟨fun _ _ _ _ _ _ _ r h => by simp [laws_FnExactParseWhole.j0] at h, fun _ _ _ _ r h => by simp [laws_FnExactParseWhole.j1] at h⟩
  | k + 1 => by
    obtain ⟨ih0, ih1⟩ := laws_FnExactParseWhole.mono_l k
    refine ⟨?_, ?_⟩
    · intro y0 y1 y2 y3 y4 y5 y6
      unfold laws_FnExactParseWhole.j0
      repeat' first
      | (with_reducible exact ih0 _ _ _ _ _ _ _)
      | (with_reducible exact ih1 _ _ _ _)
      | (with_reducible exact laws_eqWhole.mono _ _ _ _ _)
      | (with_reducible exact laws_heldWhole.mono _ _ _ _)
      | (with_reducible exact laws_markWhole.mono _ _ _ _)
      | (with_reducible exact spec_ParseWhole.mono _ _)
      | (with_reducible exact LeO.refl _)
      | (with_reducible exact LeO.none _)
      | (with_reducible refine LeO.ite ?_ ?_)
      | (with_reducible refine LeO.bind ?_ (fun _ => ?_))
      | exact ih0 _ _ _ _ _ _ _
      | exact ih1 _ _ _ _
      | exact laws_eqWhole.mono _ _ _ _ _
      | exact laws_heldWhole.mono _ _ _ _
      | exact laws_markWhole.mono _ _ _ _
      | exact spec_ParseWhole.mono _ _
      | exact LeO.none _
      | refine LeO.ite ?_ ?_
      | refine LeO.bind ?_ (fun _ => ?_)
    · intro y0 y1 y2 y3
      unfold laws_FnExactParseWhole.j1
      repeat' first
      | (with_reducible exact ih0 _ _ _ _ _ _ _)
      | (with_reducible exact ih1 _ _ _ _)
      | (with_reducible exact laws_eqWhole.mono _ _ _ _ _)
      | (with_reducible exact laws_heldWhole.mono _ _ _ _)
      | (with_reducible exact laws_markWhole.mono _ _ _ _)
      | (with_reducible exact spec_ParseWhole.mono _ _)
      | (with_reducible exact LeO.refl _)
      | (with_reducible exact LeO.none _)
      | (with_reducible refine LeO.ite ?_ ?_)
      | (with_reducible refine LeO.bind ?_ (fun _ => ?_))
      | exact ih0 _ _ _ _ _ _ _
      | exact ih1 _ _ _ _
      | exact laws_eqWhole.mono _ _ _ _ _
      | exact laws_heldWhole.mono _ _ _ _
      | exact laws_markWhole.mono _ _ _ _
      | exact spec_ParseWhole.mono _ _
      | exact LeO.none _
      | refine LeO.ite ?_ ?_
      | refine LeO.bind ?_ (fun _ => ?_)
theorem laws_FnExactParseWhole.mono : ∀ a0 k, LeO (laws_FnExactParseWhole.f k a0) (laws_FnExactParseWhole.f (k + 1) a0) := by
  intro a0 k
  obtain ⟨ih0, ih1⟩ := laws_FnExactParseWhole.mono_l k
  unfold laws_FnExactParseWhole.f
  repeat' first
      | (with_reducible exact ih0 _ _ _ _ _ _ _)
      | (with_reducible exact ih1 _ _ _ _)
      | (with_reducible exact laws_eqWhole.mono _ _ _ _ _)
      | (with_reducible exact laws_heldWhole.mono _ _ _ _)
      | (with_reducible exact laws_markWhole.mono _ _ _ _)
      | (with_reducible exact spec_ParseWhole.mono _ _)
      | (with_reducible exact LeO.refl _)
      | (with_reducible exact LeO.none _)
      | (with_reducible refine LeO.ite ?_ ?_)
      | (with_reducible refine LeO.bind ?_ (fun _ => ?_))
      | exact ih0 _ _ _ _ _ _ _
      | exact ih1 _ _ _ _
      | exact laws_eqWhole.mono _ _ _ _ _
      | exact laws_heldWhole.mono _ _ _ _
      | exact laws_markWhole.mono _ _ _ _
      | exact spec_ParseWhole.mono _ _
      | exact LeO.none _
      | refine LeO.ite ?_ ?_
      | refine LeO.bind ?_ (fun _ => ?_)
set_option maxHeartbeats 8000000 in
set_option maxRecDepth 100000 in
theorem laws_FnExactParseWhole.calls (k : Nat) (a0 : ByteArray) (r : Bool) (w : World) (h : laws_FnExactParseWhole.f k a0 = some r) :
    Calls Try.prog 4 #[.string a0] w fun e w' => e = .returned (.bool r) ∧ Below w.heap.size w w' := by
  have hu26 := Try.underlying26
  have HB := Aside0.mk (Below.refl w.heap.size w)
  have H : (if (a0.size : Int) > 1048576 then (some true) else ((spec_ParseWhole.f k a0).bind fun bt221 => ((impl_ParseWhole.f a0).bind fun bt227 => ((laws_eqWhole.f k bt227.1 bt227.2.1 bt221.1 bt221.2.1).bind fun t233 => (if t233 = true then (laws_FnExactParseWhole.j0 k a0 bt221.2.2 (bt227.2.2 != bt221.2.2) bt221.1 bt221.2.1 bt227.1 bt227.2.1) else (laws_FnExactParseWhole.j0 k a0 bt221.2.2 true bt221.1 bt221.2.1 bt227.1 bt227.2.1)))))) = some r := h
  clear h
  by_cases c2 : (a0.size : Int) > 1048576
  · rw [if_pos c2] at H
    have c2b0 : decide (1048576 < (a0.size : Int)) = true := decide_eq_true c2
    have c2b1 : decide (1048576 < a0.size) = true := decide_eq_true (by omega)
    clear c2
    obtain rfl := Option.some.inj H
    go_enter Try.func4, Try.ntmps4
    go_wp2
    go_ret
    exact ⟨by first | rfl | (simp [errW_none, errW_some] <;> rfl) | (simp [*, errW_none, errW_some] <;> rfl), by repeat (first | (with_reducible first | exact HB.out | apply below_alloc | apply pw_below_drewN | apply below_drew1) | exact HB.out)⟩
  · rw [if_neg c2] at H
    have c2b0 : decide (1048576 < (a0.size : Int)) = false := decide_eq_false c2
    have c2b1 : decide (1048576 < a0.size) = false := decide_eq_false (by omega)
    clear c2
    replace H := Option.bind_eq_some_iff.mp H
    obtain ⟨⟨t221, t222, t225⟩, A30, H⟩ := H
    replace H : ((impl_ParseWhole.f a0).bind fun bt227 => ((laws_eqWhole.f k bt227.1 bt227.2.1 t221 t222).bind fun t233 => (if t233 = true then (laws_FnExactParseWhole.j0 k a0 t225 (bt227.2.2 != t225) t221 t222 bt227.1 bt227.2.1) else (laws_FnExactParseWhole.j0 k a0 t225 true t221 t222 bt227.1 bt227.2.1)))) = some r := H
    have A3 := Aside0.mk A30
    clear A30
    replace H := Option.bind_eq_some_iff.mp H
    obtain ⟨⟨t227, t228, t231⟩, A40, H⟩ := H
    replace H : ((laws_eqWhole.f k t227 t228 t221 t222).bind fun t233 => (if t233 = true then (laws_FnExactParseWhole.j0 k a0 t225 (t231 != t225) t221 t222 t227 t228) else (laws_FnExactParseWhole.j0 k a0 t225 true t221 t222 t227 t228))) = some r := H
    have A4 := Aside0.mk A40
    clear A40
    have HC5 := Aside0.mk H
    clear H
    go_enter Try.func4, Try.ntmps4
    go_upto_region 5 with (first | ((with_reducible refine gate_callee (f := 14) rfl ?_); refine goesL_ (some 16) rfl rfl Try.func14 (by kernel_rfl) rfl #[.string a0] rfl (by (try simp only [List.map_toArray, List.map_cons, List.map_nil]); first | done | rfl | (simp only [List.length_drop, List.length_take]; rfl)) ?_; (with_reducible refine (spec_ParseWhole.calls k a0 t221 t222 t225 _ A3.out).mono ?_); rintro e w6 ⟨v223, rfl, ho0, hb⟩; refine ⟨_, rfl, ?_⟩; have n0_ := Aside0.mk (Kd.R_lower ho0 (below_size (by repeat (first | (with_reducible first | exact HB.out | apply below_alloc | apply pw_below_drewN | apply below_drew1) | exact HB.out)))); have n1_ := Aside0.mk (below_step (by repeat (first | (with_reducible first | exact HB.out | apply below_alloc | apply pw_below_drewN | apply below_drew1) | exact HB.out)) hb); clear HB; have HO224 := n0_; have HB := n1_; clear n0_ n1_; (try clear hb); (try clear hb2); (try clear hk); (try clear hi); (try clear ho0)) | ((with_reducible refine gate_dst (N := 3) rfl ?_); refine box_event ?hg (N := 3) ?hd (cs := #[.int .i64 0, .slice none 0 0]) (t := 26) ?hr ?_; (case hd => rfl); (case hg => rfl); (case hr => first | (go_simp; done) | (go_simp; rfl)); intro gb226 hg w7 hbox hb; have n0_ := Aside0.mk (Kd.R_below (by (with_reducible repeat (first | apply Kd.R_alloc | apply Kd.R_drewN | apply Kd.R_drew)); exact HO224.out) hb); have n1_ := Aside0.mk (below_step (by repeat (first | (with_reducible first | exact HB.out | apply below_alloc | apply pw_below_drewN | apply below_drew1) | exact HB.out)) hb); have n2_ := Aside0.mk (hbox); have n3_ := Aside0.mk ((by rw [hg]; exact (below_size (by repeat (first | (with_reducible first | exact HB.out | apply below_alloc | apply pw_below_drewN | apply below_drew1) | exact HB.out))) : w.heap.size ≤ gb226)); have n4_ := Aside0.mk ((by rw [hg]; exact (below_size (by repeat (first | (with_reducible first | exact HB.out | apply below_alloc | apply pw_below_drewN | apply below_drew1) | exact HB.out))) : w.heap.size ≤ gb226)); clear HO224; clear HB; have HO224 := n0_; have HB := n1_; have BK226 := n2_; have GW226 := n3_; have GE226 := n4_; clear n0_ n1_ n2_ n3_ n4_; clear hb hbox hg; have hcz8_0 : w7.cell? ⟨gb226, 0, none⟩ = some (.int .i64 0) := (blk_cell BK226.out 0).trans rfl; have hcz8_1 : w7.cell? ⟨gb226, 1, none⟩ = some (.slice none 0 0) := (blk_cell BK226.out 1).trans rfl; have hfz8_0 := blk_frozen BK226.out 0; have hfz8_1 := blk_frozen BK226.out 1; obtain ⟨Ao9, co9, eo9⟩ := Kd.R_slice HO224.out; subst eo9) | ((with_reducible refine gate_callee (f := 15) rfl ?_); refine goesL_ (some 21) rfl rfl Try.func15 (by kernel_rfl) rfl #[.string a0] rfl (by (try simp only [List.map_toArray, List.map_cons, List.map_nil]); first | done | rfl | (simp only [List.length_drop, List.length_take]; rfl)) ?_; (with_reducible refine (impl_ParseWhole.calls a0 t227 t228 t231 _ A4.out).mono ?_); rintro e w10 ⟨v229, rfl, ho0, hb⟩; refine ⟨_, rfl, ?_⟩; have n0_ := Aside0.mk (Kd.R_elder' (by (with_reducible repeat (first | apply Kd.R_alloc | apply Kd.R_drewN | apply Kd.R_drew)); exact (Kd.R_mono (Kd.R_far (p := ⟨gb226, 1, none⟩) (Kd.R_far (p := ⟨gb226, 0, none⟩) (Kd.R_types HO224.out BK226.out (by decide)) (fun _ hk => hk.2) (.int .i64 t221)) (fun _ hk => hk.2) (.slice Ao9 t222.length co9)) (fun _ h_ => h_.1))) (Kd.R_base ho0) hb); have n1_ := Aside0.mk (Kd.R_lower (Kd.R_new' ho0 (Kd.R_lt (by (with_reducible repeat (first | apply Kd.R_alloc | apply Kd.R_drewN | apply Kd.R_drew)); exact (Kd.R_mono (Kd.R_far (p := ⟨gb226, 1, none⟩) (Kd.R_far (p := ⟨gb226, 0, none⟩) (Kd.R_types HO224.out BK226.out (by decide)) (fun _ hk => hk.2) (.int .i64 t221)) (fun _ hk => hk.2) (.slice Ao9 t222.length co9)) (fun _ h_ => h_.1))))) (below_size (by repeat (first | (with_reducible first | exact HB.out | apply below_alloc | apply pw_below_drewN | apply below_drew1 | refine below_set ?_ GE226.out) | exact HB.out)))); have n2_ := Aside0.mk (blk_below (g := gb226) (o := .cells #[.int .i64 t221, .slice Ao9 t222.length co9] 26 (0, 0)) (by (with_reducible repeat (first | refine blk_drewN ?_ _ | refine blk_drew ?_ | refine blk_alloc ?_ _)); refine blk_put (cs := #[.int .i64 t221, .slice none 0 0]) ?_ 1 _ rfl; (with_reducible repeat (first | refine blk_drewN ?_ _ | refine blk_drew ?_ | refine blk_alloc ?_ _)); refine blk_put (cs := #[.int .i64 0, .slice none 0 0]) ?_ 0 _ rfl; (with_reducible repeat (first | refine blk_drewN ?_ _ | refine blk_drew ?_ | refine blk_alloc ?_ _)); exact BK226.out) hb); have n3_ := Aside0.mk (below_step (by repeat (first | (with_reducible first | exact HB.out | apply below_alloc | apply pw_below_drewN | apply below_drew1 | refine below_set ?_ GE226.out) | exact HB.out)) hb); clear HO224; clear BK226; clear HB; have HO224 := n0_; have HO230 := n1_; have BK226 := n2_; have HB := n3_; clear n0_ n1_ n2_ n3_; (try clear hb); (try clear hb2); (try clear hk); (try clear hi); (try clear ho0)) | ((with_reducible refine gate_dst (N := 5) rfl ?_); refine box_event ?hg (N := 5) ?hd (cs := #[.int .i64 0, .slice none 0 0]) (t := 26) ?hr ?_; (case hd => rfl); (case hg => rfl); (case hr => first | (go_simp; done) | (go_simp; rfl)); intro gb232 hg w11 hbox hb; have n0_ := Aside0.mk (Kd.R_below (by (with_reducible repeat (first | apply Kd.R_alloc | apply Kd.R_drewN | apply Kd.R_drew)); exact HO224.out) hb); have n1_ := Aside0.mk (Kd.R_below (by (with_reducible repeat (first | apply Kd.R_alloc | apply Kd.R_drewN | apply Kd.R_drew)); exact HO230.out) hb); have n2_ := Aside0.mk (blk_below (g := gb226) (o := .cells #[.int .i64 t221, .slice Ao9 t222.length co9] 26 (0, 0)) (by (with_reducible repeat (first | refine blk_drewN ?_ _ | refine blk_drew ?_ | refine blk_alloc ?_ _)); exact BK226.out) hb); have n3_ := Aside0.mk (below_step (by repeat (first | (with_reducible first | exact HB.out | apply below_alloc | apply pw_below_drewN | apply below_drew1 | refine below_set ?_ GE226.out) | exact HB.out)) hb); have n4_ := Aside0.mk (hbox); have n5_ := Aside0.mk ((by rw [hg]; exact (below_size (by repeat (first | (with_reducible first | exact HB.out | apply below_alloc | apply pw_below_drewN | apply below_drew1 | refine below_set ?_ GE226.out) | exact HB.out))) : w.heap.size ≤ gb232)); have n6_ := Aside0.mk ((by rw [hg]; exact (below_size (by repeat (first | (with_reducible first | exact HB.out | apply below_alloc | apply pw_below_drewN | apply below_drew1 | refine below_set ?_ GE226.out) | exact HB.out))) : w.heap.size ≤ gb232)); have n7_ := Aside0.mk ((by rw [hg]; exact Nat.ne_of_lt (blk_lt (g := gb226) (o := .cells #[.int .i64 t221, .slice Ao9 t222.length co9] 26 (0, 0)) (by (with_reducible repeat (first | refine blk_drewN ?_ _ | refine blk_drew ?_ | refine blk_alloc ?_ _)); exact BK226.out)) : gb226 ≠ gb232)); have n8_ := Aside0.mk ((by rw [hg]; exact Nat.ne_of_gt (blk_lt (g := gb226) (o := .cells #[.int .i64 t221, .slice Ao9 t222.length co9] 26 (0, 0)) (by (with_reducible repeat (first | refine blk_drewN ?_ _ | refine blk_drew ?_ | refine blk_alloc ?_ _)); exact BK226.out)) : gb232 ≠ gb226)); clear HO224; clear HO230; clear BK226; clear HB; have HO224 := n0_; have HO230 := n1_; have BK226 := n2_; have HB := n3_; have BK232 := n4_; have GW232 := n5_; have GE232 := n6_; have NB226_232 := n7_; have NB232_226 := n8_; clear n0_ n1_ n2_ n3_ n4_ n5_ n6_ n7_ n8_; clear hb hbox hg; have hnb12 := NB232_226.out; have hnc12 := NB226_232.out; have hcz13_0 : w11.cell? ⟨gb232, 0, none⟩ = some (.int .i64 0) := (blk_cell BK232.out 0).trans rfl; have hcz13_1 : w11.cell? ⟨gb232, 1, none⟩ = some (.slice none 0 0) := (blk_cell BK232.out 1).trans rfl; have hfz13_0 := blk_frozen BK232.out 0; have hfz13_1 := blk_frozen BK232.out 1; obtain ⟨Ao14, co14, eo14⟩ := Kd.R_slice HO230.out; subst eo14))
    (try simp only [Act.put, List.setIfInBounds_toArray, List.set_cons_zero, List.set_cons_succ])
    go_cut [32] (fun v32 wc => ∃ (kq : Nat) (x32_4 : Bool), v32 = .bool x32_4 ∧ Aside0 (laws_FnExactParseWhole.j0 kq a0 t225 x32_4 t221 t222 t227 t228 = some r) ∧ Aside0 (kq ≤ k) ∧ Aside0 (Kd.R (Kd.int .i64) 2 wc w.heap.size (fun k_ => some k_ ≠ ((.slice Ao14 t228.length co14) : Value).ownBlock) (.slice Ao9 t222.length co9) t222) ∧ Aside0 (Kd.R (Kd.int .i64) 2 wc w.heap.size (fun k_ => some k_ ≠ ((.slice Ao9 t222.length co9) : Value).ownBlock) (.slice Ao14 t228.length co14) t228) ∧ Aside0 (wc.heap[gb226]? = some (.cells #[.int .i64 t221, (.slice Ao9 t222.length co9)] 26 (0, 0))) ∧ Aside0 (wc.heap[gb232]? = some (.cells #[.int .i64 t227, (.slice Ao14 t228.length co14)] 26 (0, 0))) ∧ Aside0 (Below w.heap.size w wc))
    case first =>
      have H := HC5.out
      clear HC5
      replace H := Option.bind_eq_some_iff.mp H
      obtain ⟨t233, A150, H⟩ := H
      replace H : (if t233 = true then (laws_FnExactParseWhole.j0 k a0 t225 (t231 != t225) t221 t222 t227 t228) else (laws_FnExactParseWhole.j0 k a0 t225 true t221 t222 t227 t228)) = some r := H
      have A15 := Aside0.mk A150
      clear A150
      by_cases c16 : t233 = true
      · subst c16
        have H1 : (laws_FnExactParseWhole.j0 k a0 t225 (t231 != t225) t221 t222 t227 t228) = some r := by rw [if_pos rfl] at H; exact H
        clear H
        have H := H1
        clear H1
        have H' := Aside0.mk H
        clear H
        have hnb17 := NB232_226.out
        have hnc17 := NB226_232.out
        have hcz18_0 : w11.cell? ⟨gb232, 0, none⟩ = some (.int .i64 0) := (blk_cell BK232.out 0).trans rfl
        have hcz18_1 : w11.cell? ⟨gb232, 1, none⟩ = some (.slice none 0 0) := (blk_cell BK232.out 1).trans rfl
        have hfz18_0 := blk_frozen BK232.out 0
        have hfz18_1 := blk_frozen BK232.out 1
        have hcz19_0 : w11.cell? ⟨gb226, 0, none⟩ = some (.int .i64 t221) := (blk_cell BK226.out 0).trans rfl
        have hcz19_1 : w11.cell? ⟨gb226, 1, none⟩ = some (.slice Ao9 t222.length co9) := (blk_cell BK226.out 1).trans rfl
        have hfz19_0 := blk_frozen BK226.out 0
        have hfz19_1 := blk_frozen BK226.out 1
        go_wp2_with (first | ((with_reducible refine gate_callee (f := 11) rfl ?_); refine goesL_ (some 26) rfl rfl Try.func11 (by kernel_rfl) rfl #[.agg #[.int .i64 t227, .slice Ao14 t228.length co14], .agg #[.int .i64 t221, .slice Ao9 t222.length co9]] rfl (by (try simp only [List.map_toArray, List.map_cons, List.map_nil]); first | done | rfl | (simp only [List.length_drop, List.length_take]; rfl)) ?_; (with_reducible refine (laws_eqWhole.calls k t227 _ _ t228 t221 _ _ t222 true _ ?side1 ?side2 ?side3 ?side4 A15.out).mono ?_); (case side1 => refine (Kd.R_reads' (e := 2) (base := w.heap.size) (ok := fun k_ => (True ∧ some k_ ≠ (.slice Ao9 t222.length co9 : Value).ownBlock)) (n := t228.length) (c := co14) ?_).2.2; exact (by (with_reducible repeat (first | apply Kd.R_alloc | apply Kd.R_drewN | apply Kd.R_drew)); exact (Kd.R_mono (Kd.R_far (p := ⟨gb232, 1, none⟩) (Kd.R_far (p := ⟨gb232, 0, none⟩) (Kd.R_types HO230.out BK232.out (by decide)) (fun _ hk => hk.2) (.int .i64 t227)) (fun _ hk => hk.2) (.slice Ao14 t228.length co14)) (fun _ h_ => h_.1)))); (case side2 => exact (Kd.R_reads' HO230.out).2.1); (case side3 => refine (Kd.R_reads' (e := 2) (base := w.heap.size) (ok := fun k_ => (True ∧ some k_ ≠ (.slice Ao14 t228.length co14 : Value).ownBlock)) (n := t222.length) (c := co9) ?_).2.2; exact (by (with_reducible repeat (first | apply Kd.R_alloc | apply Kd.R_drewN | apply Kd.R_drew)); exact (Kd.R_mono (Kd.R_far (p := ⟨gb232, 1, none⟩) (Kd.R_far (p := ⟨gb232, 0, none⟩) (Kd.R_types HO224.out BK232.out (by decide)) (fun _ hk => hk.2) (.int .i64 t227)) (fun _ hk => hk.2) (.slice Ao14 t228.length co14)) (fun _ h_ => h_.1)))); (case side4 => exact (Kd.R_reads' HO224.out).2.1); rintro e w20 ⟨rfl, hb⟩; refine ⟨_, rfl, ?_⟩; have n0_ := Aside0.mk (Kd.R_below (by (with_reducible repeat (first | apply Kd.R_alloc | apply Kd.R_drewN | apply Kd.R_drew)); exact (Kd.R_mono (Kd.R_far (p := ⟨gb232, 1, none⟩) (Kd.R_far (p := ⟨gb232, 0, none⟩) (Kd.R_types HO224.out BK232.out (by decide)) (fun _ hk => hk.2) (.int .i64 t227)) (fun _ hk => hk.2) (.slice Ao14 t228.length co14)) (fun _ h_ => h_.1))) hb); have n1_ := Aside0.mk (Kd.R_below (by (with_reducible repeat (first | apply Kd.R_alloc | apply Kd.R_drewN | apply Kd.R_drew)); exact (Kd.R_mono (Kd.R_far (p := ⟨gb232, 1, none⟩) (Kd.R_far (p := ⟨gb232, 0, none⟩) (Kd.R_types HO230.out BK232.out (by decide)) (fun _ hk => hk.2) (.int .i64 t227)) (fun _ hk => hk.2) (.slice Ao14 t228.length co14)) (fun _ h_ => h_.1))) hb); have n2_ := Aside0.mk (blk_below (g := gb226) (o := .cells #[.int .i64 t221, .slice Ao9 t222.length co9] 26 (0, 0)) (by (with_reducible repeat (first | refine blk_drewN ?_ _ | refine blk_drew ?_ | refine blk_alloc ?_ _)); refine blk_far ?_ NB226_232.out _; (with_reducible repeat (first | refine blk_drewN ?_ _ | refine blk_drew ?_ | refine blk_alloc ?_ _)); refine blk_far ?_ NB226_232.out _; (with_reducible repeat (first | refine blk_drewN ?_ _ | refine blk_drew ?_ | refine blk_alloc ?_ _)); exact BK226.out) hb); have n3_ := Aside0.mk (blk_below (g := gb232) (o := .cells #[.int .i64 t227, .slice Ao14 t228.length co14] 26 (0, 0)) (by (with_reducible repeat (first | refine blk_drewN ?_ _ | refine blk_drew ?_ | refine blk_alloc ?_ _)); refine blk_put (cs := #[.int .i64 t227, .slice none 0 0]) ?_ 1 _ rfl; (with_reducible repeat (first | refine blk_drewN ?_ _ | refine blk_drew ?_ | refine blk_alloc ?_ _)); refine blk_put (cs := #[.int .i64 0, .slice none 0 0]) ?_ 0 _ rfl; (with_reducible repeat (first | refine blk_drewN ?_ _ | refine blk_drew ?_ | refine blk_alloc ?_ _)); exact BK232.out) hb); have n4_ := Aside0.mk (below_step (by repeat (first | (with_reducible first | exact HB.out | apply below_alloc | apply pw_below_drewN | apply below_drew1 | refine below_set ?_ GE226.out | refine below_set ?_ GE232.out) | exact HB.out)) hb); clear HO224; clear HO230; clear BK226; clear BK232; clear HB; have HO224 := n0_; have HO230 := n1_; have BK226 := n2_; have BK232 := n3_; have HB := n4_; clear n0_ n1_ n2_ n3_ n4_; (try clear hb); (try clear hb2); (try clear hk); (try clear hi)))
        go_meet
        case rel => exact ⟨_, ((t231 != t225)), (by first | rfl | (simp; done) | (simp [*]; done)), H', ⟨by first | omega | exact Nat.le_refl _⟩, ⟨by (with_reducible repeat (first | apply Kd.R_alloc | apply Kd.R_drewN | apply Kd.R_drew)); exact Kd.R_mono HO224.out (fun _ hk => hk.2)⟩, ⟨by (with_reducible repeat (first | apply Kd.R_alloc | apply Kd.R_drewN | apply Kd.R_drew)); exact Kd.R_mono HO230.out (fun _ hk => hk.2)⟩, ⟨by (with_reducible repeat (first | refine blk_drewN ?_ _ | refine blk_drew ?_ | refine blk_alloc ?_ _)); exact BK226.out⟩, ⟨by (with_reducible repeat (first | refine blk_drewN ?_ _ | refine blk_drew ?_ | refine blk_alloc ?_ _)); exact BK232.out⟩, ⟨by repeat (first | (with_reducible first | exact HB.out | apply below_alloc | apply pw_below_drewN | apply below_drew1 | refine below_set ?_ GE226.out | refine below_set ?_ GE232.out) | exact HB.out)⟩⟩
      · replace c16 := Bool.eq_false_iff.mpr c16
        subst c16
        have H1 : (laws_FnExactParseWhole.j0 k a0 t225 true t221 t222 t227 t228) = some r := by rw [if_neg (show ¬ (false = true) by decide)] at H; exact H
        clear H
        have H := H1
        clear H1
        have H' := Aside0.mk H
        clear H
        have hnb21 := NB232_226.out
        have hnc21 := NB226_232.out
        have hcz22_0 : w11.cell? ⟨gb232, 0, none⟩ = some (.int .i64 0) := (blk_cell BK232.out 0).trans rfl
        have hcz22_1 : w11.cell? ⟨gb232, 1, none⟩ = some (.slice none 0 0) := (blk_cell BK232.out 1).trans rfl
        have hfz22_0 := blk_frozen BK232.out 0
        have hfz22_1 := blk_frozen BK232.out 1
        have hcz23_0 : w11.cell? ⟨gb226, 0, none⟩ = some (.int .i64 t221) := (blk_cell BK226.out 0).trans rfl
        have hcz23_1 : w11.cell? ⟨gb226, 1, none⟩ = some (.slice Ao9 t222.length co9) := (blk_cell BK226.out 1).trans rfl
        have hfz23_0 := blk_frozen BK226.out 0
        have hfz23_1 := blk_frozen BK226.out 1
        go_wp2_with (first | ((with_reducible refine gate_callee (f := 11) rfl ?_); refine goesL_ (some 26) rfl rfl Try.func11 (by kernel_rfl) rfl #[.agg #[.int .i64 t227, .slice Ao14 t228.length co14], .agg #[.int .i64 t221, .slice Ao9 t222.length co9]] rfl (by (try simp only [List.map_toArray, List.map_cons, List.map_nil]); first | done | rfl | (simp only [List.length_drop, List.length_take]; rfl)) ?_; (with_reducible refine (laws_eqWhole.calls k t227 _ _ t228 t221 _ _ t222 false _ ?side1 ?side2 ?side3 ?side4 A15.out).mono ?_); (case side1 => refine (Kd.R_reads' (e := 2) (base := w.heap.size) (ok := fun k_ => (True ∧ some k_ ≠ (.slice Ao9 t222.length co9 : Value).ownBlock)) (n := t228.length) (c := co14) ?_).2.2; exact (by (with_reducible repeat (first | apply Kd.R_alloc | apply Kd.R_drewN | apply Kd.R_drew)); exact (Kd.R_mono (Kd.R_far (p := ⟨gb232, 1, none⟩) (Kd.R_far (p := ⟨gb232, 0, none⟩) (Kd.R_types HO230.out BK232.out (by decide)) (fun _ hk => hk.2) (.int .i64 t227)) (fun _ hk => hk.2) (.slice Ao14 t228.length co14)) (fun _ h_ => h_.1)))); (case side2 => exact (Kd.R_reads' HO230.out).2.1); (case side3 => refine (Kd.R_reads' (e := 2) (base := w.heap.size) (ok := fun k_ => (True ∧ some k_ ≠ (.slice Ao14 t228.length co14 : Value).ownBlock)) (n := t222.length) (c := co9) ?_).2.2; exact (by (with_reducible repeat (first | apply Kd.R_alloc | apply Kd.R_drewN | apply Kd.R_drew)); exact (Kd.R_mono (Kd.R_far (p := ⟨gb232, 1, none⟩) (Kd.R_far (p := ⟨gb232, 0, none⟩) (Kd.R_types HO224.out BK232.out (by decide)) (fun _ hk => hk.2) (.int .i64 t227)) (fun _ hk => hk.2) (.slice Ao14 t228.length co14)) (fun _ h_ => h_.1)))); (case side4 => exact (Kd.R_reads' HO224.out).2.1); rintro e w24 ⟨rfl, hb⟩; refine ⟨_, rfl, ?_⟩; have n0_ := Aside0.mk (Kd.R_below (by (with_reducible repeat (first | apply Kd.R_alloc | apply Kd.R_drewN | apply Kd.R_drew)); exact (Kd.R_mono (Kd.R_far (p := ⟨gb232, 1, none⟩) (Kd.R_far (p := ⟨gb232, 0, none⟩) (Kd.R_types HO224.out BK232.out (by decide)) (fun _ hk => hk.2) (.int .i64 t227)) (fun _ hk => hk.2) (.slice Ao14 t228.length co14)) (fun _ h_ => h_.1))) hb); have n1_ := Aside0.mk (Kd.R_below (by (with_reducible repeat (first | apply Kd.R_alloc | apply Kd.R_drewN | apply Kd.R_drew)); exact (Kd.R_mono (Kd.R_far (p := ⟨gb232, 1, none⟩) (Kd.R_far (p := ⟨gb232, 0, none⟩) (Kd.R_types HO230.out BK232.out (by decide)) (fun _ hk => hk.2) (.int .i64 t227)) (fun _ hk => hk.2) (.slice Ao14 t228.length co14)) (fun _ h_ => h_.1))) hb); have n2_ := Aside0.mk (blk_below (g := gb226) (o := .cells #[.int .i64 t221, .slice Ao9 t222.length co9] 26 (0, 0)) (by (with_reducible repeat (first | refine blk_drewN ?_ _ | refine blk_drew ?_ | refine blk_alloc ?_ _)); refine blk_far ?_ NB226_232.out _; (with_reducible repeat (first | refine blk_drewN ?_ _ | refine blk_drew ?_ | refine blk_alloc ?_ _)); refine blk_far ?_ NB226_232.out _; (with_reducible repeat (first | refine blk_drewN ?_ _ | refine blk_drew ?_ | refine blk_alloc ?_ _)); exact BK226.out) hb); have n3_ := Aside0.mk (blk_below (g := gb232) (o := .cells #[.int .i64 t227, .slice Ao14 t228.length co14] 26 (0, 0)) (by (with_reducible repeat (first | refine blk_drewN ?_ _ | refine blk_drew ?_ | refine blk_alloc ?_ _)); refine blk_put (cs := #[.int .i64 t227, .slice none 0 0]) ?_ 1 _ rfl; (with_reducible repeat (first | refine blk_drewN ?_ _ | refine blk_drew ?_ | refine blk_alloc ?_ _)); refine blk_put (cs := #[.int .i64 0, .slice none 0 0]) ?_ 0 _ rfl; (with_reducible repeat (first | refine blk_drewN ?_ _ | refine blk_drew ?_ | refine blk_alloc ?_ _)); exact BK232.out) hb); have n4_ := Aside0.mk (below_step (by repeat (first | (with_reducible first | exact HB.out | apply below_alloc | apply pw_below_drewN | apply below_drew1 | refine below_set ?_ GE226.out | refine below_set ?_ GE232.out) | exact HB.out)) hb); clear HO224; clear HO230; clear BK226; clear BK232; clear HB; have HO224 := n0_; have HO230 := n1_; have BK226 := n2_; have BK232 := n3_; have HB := n4_; clear n0_ n1_ n2_ n3_ n4_; (try clear hb); (try clear hb2); (try clear hk); (try clear hi)))
        go_meet
        case rel => exact ⟨_, (true), (by first | rfl | (simp; done) | (simp [*]; done)), H', ⟨by first | omega | exact Nat.le_refl _⟩, ⟨by (with_reducible repeat (first | apply Kd.R_alloc | apply Kd.R_drewN | apply Kd.R_drew)); exact Kd.R_mono HO224.out (fun _ hk => hk.2)⟩, ⟨by (with_reducible repeat (first | apply Kd.R_alloc | apply Kd.R_drewN | apply Kd.R_drew)); exact Kd.R_mono HO230.out (fun _ hk => hk.2)⟩, ⟨by (with_reducible repeat (first | refine blk_drewN ?_ _ | refine blk_drew ?_ | refine blk_alloc ?_ _)); exact BK226.out⟩, ⟨by (with_reducible repeat (first | refine blk_drewN ?_ _ | refine blk_drew ?_ | refine blk_alloc ?_ _)); exact BK232.out⟩, ⟨by repeat (first | (with_reducible first | exact HB.out | apply below_alloc | apply pw_below_drewN | apply below_drew1 | refine below_set ?_ GE226.out | refine below_set ?_ GE232.out) | exact HB.out)⟩⟩
    case rest =>
      clear HC5
      try clear c1
      try clear c2
      try clear c2b0
      try clear c2b1
      try clear p2
      try clear c4
      try clear c11
      try clear c12
      try clear c14
      try clear c15
      try clear c16
      try clear c17
      try clear c21
      try clear hcz13_0
      try clear hcz13_1
      try clear hcz18_0
      try clear hcz18_1
      try clear hcz19_0
      try clear hcz19_1
      try clear hcz22_0
      try clear hcz22_1
      try clear hcz23_0
      try clear hcz23_1
      try clear hcz8_0
      try clear hcz8_1
      try clear hfz13_0
      try clear hfz13_1
      try clear hfz18_0
      try clear hfz18_1
      try clear hfz19_0
      try clear hfz19_1
      try clear hfz22_0
      try clear hfz22_1
      try clear hfz23_0
      try clear hfz23_1
      try clear hfz8_0
      try clear hfz8_1
      obtain ⟨kq, x32_4, rfl, HA, HJ4, HO_227001, HO_233001, BK226, BK232, HB⟩ := hcut
      cases kq with
      | zero => exact absurd HA.out (by simp [laws_FnExactParseWhole.j0])
      | succ kj4 =>
        have H := HA.out
        clear HA
        simp only [laws_FnExactParseWhole.j0] at H
        by_cases c25 : x32_4 = true
        · subst c25
          have H1 : (some false) = some r := by rw [if_pos rfl] at H; exact H
          clear H
          have H := H1
          clear H1
          obtain rfl := Option.some.inj H
          go_wp2
          go_ret
          exact ⟨by first | rfl | (simp [errW_none, errW_some] <;> rfl) | (simp [*, errW_none, errW_some] <;> rfl), by repeat (first | (with_reducible first | exact HB.out | apply below_alloc | apply pw_below_drewN | apply below_drew1 | refine below_set ?_ GE226.out | refine below_set ?_ GE232.out) | exact HB.out)⟩
        · replace c25 := Bool.eq_false_iff.mpr c25
          subst c25
          have H1 : ((laws_markWhole.f kj4 t227 t228 1).bind fun bt234 => ((laws_heldWhole.f kj4 t227 bt234.2 1).bind fun t236 => (if t236 < 0 then (some false) else (if t236 = bt234.1 then ((impl_ParseWhole.f a0).bind fun bt237 => ((laws_eqWhole.f kj4 bt237.1 bt237.2.1 t221 t222).bind fun t243 => (if t243 = true then (laws_FnExactParseWhole.j1 kj4 bt234.1 (bt237.2.2 != t225) t227 bt234.2) else (laws_FnExactParseWhole.j1 kj4 bt234.1 true t227 bt234.2)))) else (some false))))) = some r := by rw [if_neg (show ¬ (false = true) by decide)] at H; exact H
          clear H
          have H := H1
          clear H1
          replace H := Option.bind_eq_some_iff.mp H
          obtain ⟨⟨t234, t235⟩, A260, H⟩ := H
          replace H : ((laws_heldWhole.f kj4 t227 t235 1).bind fun t236 => (if t236 < 0 then (some false) else (if t236 = t234 then ((impl_ParseWhole.f a0).bind fun bt237 => ((laws_eqWhole.f kj4 bt237.1 bt237.2.1 t221 t222).bind fun t243 => (if t243 = true then (laws_FnExactParseWhole.j1 kj4 t234 (bt237.2.2 != t225) t227 t235) else (laws_FnExactParseWhole.j1 kj4 t234 true t227 t235)))) else (some false)))) = some r := H
          have A26 := Aside0.mk A260
          clear A260
          replace H := Option.bind_eq_some_iff.mp H
          obtain ⟨t236, A270, H⟩ := H
          replace H : (if t236 < 0 then (some false) else (if t236 = t234 then ((impl_ParseWhole.f a0).bind fun bt237 => ((laws_eqWhole.f kj4 bt237.1 bt237.2.1 t221 t222).bind fun t243 => (if t243 = true then (laws_FnExactParseWhole.j1 kj4 t234 (bt237.2.2 != t225) t227 t235) else (laws_FnExactParseWhole.j1 kj4 t234 true t227 t235)))) else (some false))) = some r := H
          have A27 := Aside0.mk A270
          clear A270
          by_cases c28 : t236 < 0
          · rw [if_pos c28] at H
            have c28b0 : decide (t236 < 0) = true := decide_eq_true c28
            clear c28
            obtain rfl := Option.some.inj H
            have hnb29 := NB232_226.out
            have hnc29 := NB226_232.out
            have hcz30_0 : wc.cell? ⟨gb232, 0, none⟩ = some (.int .i64 t227) := (blk_cell BK232.out 0).trans rfl
            have hcz30_1 : wc.cell? ⟨gb232, 1, none⟩ = some (.slice Ao14 t228.length co14) := (blk_cell BK232.out 1).trans rfl
            have hfz30_0 := blk_frozen BK232.out 0
            have hfz30_1 := blk_frozen BK232.out 1
            go_wp2_with (first | ((with_reducible refine gate_callee (f := 12) rfl ?_); refine goesL_ (some 35) rfl rfl Try.func12 (by kernel_rfl) rfl #[.agg #[.int .i64 t227, .slice Ao14 t228.length co14], .int .i64 1] rfl (by (try simp only [List.map_toArray, List.map_cons, List.map_nil]); first | done | rfl | (simp only [List.length_drop, List.length_take]; rfl)) ?_; (with_reducible refine (laws_markWhole.calls kj4 t227 (fun k_ => some k_ = (.slice Ao14 t228.length co14 : Value).ownBlock) (.slice Ao14 t228.length co14) t228 1 t234 t235 w _ ?side1 ?side2 A26.out).mono ?_); (case side1 => repeat (first | (with_reducible first | exact HB.out | apply below_alloc | apply pw_below_drewN | apply below_drew1 | refine below_set ?_ GE226.out | refine below_set ?_ GE232.out) | exact HB.out)); (case side2 => exact Kd.R_tight rfl HO_233001.out); rintro e w31 ⟨rfl, hy0, hb, hkp⟩; refine ⟨_, rfl, ?_⟩; have n0_ := Aside0.mk (Kd.R_mono (ok' := fun k_ => some k_ ≠ (.slice Ao14 t228.length co14 : Value).ownBlock) (Kd.R_keptB (HO_227001.out) hkp (fun k_ hk_ hs_ => (hk_) hs_)) (fun k_ hk_ => hk_.1)); have n1_ := Aside0.mk (Kd.R_reok rfl hy0 (fun k_ e_ => HO_233001.out.1 k_ e_)); have n2_ := Aside0.mk (blk_kept (by (with_reducible repeat (first | refine blk_drewN ?_ _ | refine blk_drew ?_ | refine blk_alloc ?_ _)); exact BK226.out) hkp (fun hs_ => (fun e_ => (Kd.R_ne HO_233001.out BK226.out (by decide)) e_) hs_)); have n3_ := Aside0.mk (blk_kept (by (with_reducible repeat (first | refine blk_drewN ?_ _ | refine blk_drew ?_ | refine blk_alloc ?_ _)); exact BK232.out) hkp (fun hs_ => (fun e_ => (Kd.R_ne HO_233001.out BK232.out (by decide)) e_) hs_)); have n4_ := Aside0.mk (hb); clear HO_227001; clear HO_233001; clear BK226; clear BK232; clear HB; have HO_227001 := n0_; have HO_233001 := n1_; have BK226 := n2_; have BK232 := n3_; have HB := n4_; clear n0_ n1_ n2_ n3_ n4_; (try clear hb); (try clear hkp); (try clear hy0); have hcz32_0 : w31.cell? ⟨gb232, 0, none⟩ = some (.int .i64 t227) := (blk_cell BK232.out 0).trans rfl; have hcz32_1 : w31.cell? ⟨gb232, 1, none⟩ = some (.slice Ao14 t228.length co14) := (blk_cell BK232.out 1).trans rfl; have hfz32_0 := blk_frozen BK232.out 0; have hfz32_1 := blk_frozen BK232.out 1) | ((with_reducible refine gate_callee (f := 13) rfl ?_); refine goesL_ (some 38) rfl rfl Try.func13 (by kernel_rfl) rfl #[.agg #[.int .i64 t227, .slice Ao14 t235.length co14], .int .i64 1] rfl (by (try simp only [List.map_toArray, List.map_cons, List.map_nil]); first | done | (rw [show t235.length = t228.length from (Kd.R_reads' HO_233001.out).1.symm] <;> rfl) | rfl | (simp only [List.length_drop, List.length_take]; rfl)) ?_; (with_reducible refine (laws_heldWhole.calls kj4 t227 _ _ t235 1 t236 _ ?side1 ?side2 A27.out).mono ?_); (case side1 => repeat (first | exact (Kd.R_reads' HO_233001.out).2.2 | (with_reducible refine Kd.C_alloc ?_ _) | (with_reducible refine Kd.C_drewN ?_ _) | (with_reducible refine Kd.C_drew ?_))); (case side2 => rw [show t235.length = t228.length from (Kd.R_reads' HO_233001.out).1.symm]; exact (Kd.R_reads' HO_233001.out).2.1); rintro e w33 ⟨rfl, hb⟩; refine ⟨_, rfl, ?_⟩; have n0_ := Aside0.mk (Kd.R_below (by (with_reducible repeat (first | apply Kd.R_alloc | apply Kd.R_drewN | apply Kd.R_drew)); exact HO_227001.out) hb); have n1_ := Aside0.mk (Kd.R_below (by (with_reducible repeat (first | apply Kd.R_alloc | apply Kd.R_drewN | apply Kd.R_drew)); exact HO_233001.out) hb); have n2_ := Aside0.mk (blk_below (g := gb226) (o := .cells #[.int .i64 t221, .slice Ao9 t222.length co9] 26 (0, 0)) (by (with_reducible repeat (first | refine blk_drewN ?_ _ | refine blk_drew ?_ | refine blk_alloc ?_ _)); exact BK226.out) hb); have n3_ := Aside0.mk (blk_below (g := gb232) (o := .cells #[.int .i64 t227, .slice Ao14 t228.length co14] 26 (0, 0)) (by (with_reducible repeat (first | refine blk_drewN ?_ _ | refine blk_drew ?_ | refine blk_alloc ?_ _)); exact BK232.out) hb); have n4_ := Aside0.mk (below_step (by repeat (first | (with_reducible first | exact HB.out | apply below_alloc | apply pw_below_drewN | apply below_drew1 | refine below_set ?_ GE226.out | refine below_set ?_ GE232.out) | exact HB.out)) hb); clear HO_227001; clear HO_233001; clear BK226; clear BK232; clear HB; have HO_227001 := n0_; have HO_233001 := n1_; have BK226 := n2_; have BK232 := n3_; have HB := n4_; clear n0_ n1_ n2_ n3_ n4_; (try clear hb); (try clear hb2); (try clear hk); (try clear hi)))
            go_ret
            exact ⟨by first | rfl | (simp [errW_none, errW_some] <;> rfl) | (simp [*, errW_none, errW_some] <;> rfl), by repeat (first | (with_reducible first | exact HB.out | apply below_alloc | apply pw_below_drewN | apply below_drew1 | refine below_set ?_ GE226.out | refine below_set ?_ GE232.out) | exact HB.out)⟩
          · rw [if_neg c28] at H
            have c28b0 : decide (t236 < 0) = false := decide_eq_false c28
            clear c28
            by_cases c34 : t236 = t234
            · rw [if_pos c34] at H
              have c34b0 : (t236 == t234) = true := beq_iff_eq.mpr c34
              have c34b1 : (t236 != t234) = false := bne_eq_false_iff_eq.mpr c34
              clear c34
              replace H := Option.bind_eq_some_iff.mp H
              obtain ⟨⟨t237, t238, t241⟩, A350, H⟩ := H
              replace H : ((laws_eqWhole.f kj4 t237 t238 t221 t222).bind fun t243 => (if t243 = true then (laws_FnExactParseWhole.j1 kj4 t234 (t241 != t225) t227 t235) else (laws_FnExactParseWhole.j1 kj4 t234 true t227 t235))) = some r := H
              have A35 := Aside0.mk A350
              clear A350
              have HC36 := Aside0.mk H
              clear H
              have hnb37 := NB232_226.out
              have hnc37 := NB226_232.out
              have hcz38_0 : wc.cell? ⟨gb232, 0, none⟩ = some (.int .i64 t227) := (blk_cell BK232.out 0).trans rfl
              have hcz38_1 : wc.cell? ⟨gb232, 1, none⟩ = some (.slice Ao14 t228.length co14) := (blk_cell BK232.out 1).trans rfl
              have hfz38_0 := blk_frozen BK232.out 0
              have hfz38_1 := blk_frozen BK232.out 1
              go_upto_region 16 with (first | ((with_reducible refine gate_callee (f := 12) rfl ?_); refine goesL_ (some 35) rfl rfl Try.func12 (by kernel_rfl) rfl #[.agg #[.int .i64 t227, .slice Ao14 t228.length co14], .int .i64 1] rfl (by (try simp only [List.map_toArray, List.map_cons, List.map_nil]); first | done | rfl | (simp only [List.length_drop, List.length_take]; rfl)) ?_; (with_reducible refine (laws_markWhole.calls kj4 t227 (fun k_ => some k_ = (.slice Ao14 t228.length co14 : Value).ownBlock) (.slice Ao14 t228.length co14) t228 1 t234 t235 w _ ?side1 ?side2 A26.out).mono ?_); (case side1 => repeat (first | (with_reducible first | exact HB.out | apply below_alloc | apply pw_below_drewN | apply below_drew1 | refine below_set ?_ GE226.out | refine below_set ?_ GE232.out) | exact HB.out)); (case side2 => exact Kd.R_tight rfl HO_233001.out); rintro e w39 ⟨rfl, hy0, hb, hkp⟩; refine ⟨_, rfl, ?_⟩; have n0_ := Aside0.mk (Kd.R_mono (ok' := fun k_ => some k_ ≠ (.slice Ao14 t228.length co14 : Value).ownBlock) (Kd.R_keptB (HO_227001.out) hkp (fun k_ hk_ hs_ => (hk_) hs_)) (fun k_ hk_ => hk_.1)); have n1_ := Aside0.mk (Kd.R_reok rfl hy0 (fun k_ e_ => HO_233001.out.1 k_ e_)); have n2_ := Aside0.mk (blk_kept (by (with_reducible repeat (first | refine blk_drewN ?_ _ | refine blk_drew ?_ | refine blk_alloc ?_ _)); exact BK226.out) hkp (fun hs_ => (fun e_ => (Kd.R_ne HO_233001.out BK226.out (by decide)) e_) hs_)); have n3_ := Aside0.mk (blk_kept (by (with_reducible repeat (first | refine blk_drewN ?_ _ | refine blk_drew ?_ | refine blk_alloc ?_ _)); exact BK232.out) hkp (fun hs_ => (fun e_ => (Kd.R_ne HO_233001.out BK232.out (by decide)) e_) hs_)); have n4_ := Aside0.mk (hb); clear HO_227001; clear HO_233001; clear BK226; clear BK232; clear HB; have HO_227001 := n0_; have HO_233001 := n1_; have BK226 := n2_; have BK232 := n3_; have HB := n4_; clear n0_ n1_ n2_ n3_ n4_; (try clear hb); (try clear hkp); (try clear hy0); have hcz40_0 : w39.cell? ⟨gb232, 0, none⟩ = some (.int .i64 t227) := (blk_cell BK232.out 0).trans rfl; have hcz40_1 : w39.cell? ⟨gb232, 1, none⟩ = some (.slice Ao14 t228.length co14) := (blk_cell BK232.out 1).trans rfl; have hfz40_0 := blk_frozen BK232.out 0; have hfz40_1 := blk_frozen BK232.out 1) | ((with_reducible refine gate_callee (f := 13) rfl ?_); refine goesL_ (some 38) rfl rfl Try.func13 (by kernel_rfl) rfl #[.agg #[.int .i64 t227, .slice Ao14 t235.length co14], .int .i64 1] rfl (by (try simp only [List.map_toArray, List.map_cons, List.map_nil]); first | done | (rw [show t235.length = t228.length from (Kd.R_reads' HO_233001.out).1.symm] <;> rfl) | rfl | (simp only [List.length_drop, List.length_take]; rfl)) ?_; (with_reducible refine (laws_heldWhole.calls kj4 t227 _ _ t235 1 t236 _ ?side1 ?side2 A27.out).mono ?_); (case side1 => repeat (first | exact (Kd.R_reads' HO_233001.out).2.2 | (with_reducible refine Kd.C_alloc ?_ _) | (with_reducible refine Kd.C_drewN ?_ _) | (with_reducible refine Kd.C_drew ?_))); (case side2 => rw [show t235.length = t228.length from (Kd.R_reads' HO_233001.out).1.symm]; exact (Kd.R_reads' HO_233001.out).2.1); rintro e w41 ⟨rfl, hb⟩; refine ⟨_, rfl, ?_⟩; have n0_ := Aside0.mk (Kd.R_below (by (with_reducible repeat (first | apply Kd.R_alloc | apply Kd.R_drewN | apply Kd.R_drew)); exact HO_227001.out) hb); have n1_ := Aside0.mk (Kd.R_below (by (with_reducible repeat (first | apply Kd.R_alloc | apply Kd.R_drewN | apply Kd.R_drew)); exact HO_233001.out) hb); have n2_ := Aside0.mk (blk_below (g := gb226) (o := .cells #[.int .i64 t221, .slice Ao9 t222.length co9] 26 (0, 0)) (by (with_reducible repeat (first | refine blk_drewN ?_ _ | refine blk_drew ?_ | refine blk_alloc ?_ _)); exact BK226.out) hb); have n3_ := Aside0.mk (blk_below (g := gb232) (o := .cells #[.int .i64 t227, .slice Ao14 t228.length co14] 26 (0, 0)) (by (with_reducible repeat (first | refine blk_drewN ?_ _ | refine blk_drew ?_ | refine blk_alloc ?_ _)); exact BK232.out) hb); have n4_ := Aside0.mk (below_step (by repeat (first | (with_reducible first | exact HB.out | apply below_alloc | apply pw_below_drewN | apply below_drew1 | refine below_set ?_ GE226.out | refine below_set ?_ GE232.out) | exact HB.out)) hb); clear HO_227001; clear HO_233001; clear BK226; clear BK232; clear HB; have HO_227001 := n0_; have HO_233001 := n1_; have BK226 := n2_; have BK232 := n3_; have HB := n4_; clear n0_ n1_ n2_ n3_ n4_; (try clear hb); (try clear hb2); (try clear hk); (try clear hi)) | ((with_reducible refine gate_callee (f := 15) rfl ?_); refine goesL_ (some 46) rfl rfl Try.func15 (by kernel_rfl) rfl #[.string a0] rfl (by (try simp only [List.map_toArray, List.map_cons, List.map_nil]); first | done | rfl | (simp only [List.length_drop, List.length_take]; rfl)) ?_; (with_reducible refine (impl_ParseWhole.calls a0 t237 t238 t241 _ A35.out).mono ?_); rintro e w42 ⟨v239, rfl, ho0, hb⟩; refine ⟨_, rfl, ?_⟩; have n0_ := Aside0.mk (Kd.R_elder' (by (with_reducible repeat (first | apply Kd.R_alloc | apply Kd.R_drewN | apply Kd.R_drew)); exact HO_227001.out) (Kd.R_base ho0) hb); have n1_ := Aside0.mk (Kd.R_elder' (by (with_reducible repeat (first | apply Kd.R_alloc | apply Kd.R_drewN | apply Kd.R_drew)); exact HO_233001.out) (Kd.R_base ho0) hb); have n2_ := Aside0.mk (Kd.R_lower (Kd.R_new' (Kd.R_new' ho0 (Kd.R_lt (by (with_reducible repeat (first | apply Kd.R_alloc | apply Kd.R_drewN | apply Kd.R_drew)); exact HO_227001.out))) (Kd.R_lt (by (with_reducible repeat (first | apply Kd.R_alloc | apply Kd.R_drewN | apply Kd.R_drew)); exact HO_233001.out))) (below_size (by repeat (first | (with_reducible first | exact HB.out | apply below_alloc | apply pw_below_drewN | apply below_drew1 | refine below_set ?_ GE226.out | refine below_set ?_ GE232.out) | exact HB.out)))); have n3_ := Aside0.mk (blk_below (g := gb226) (o := .cells #[.int .i64 t221, .slice Ao9 t222.length co9] 26 (0, 0)) (by (with_reducible repeat (first | refine blk_drewN ?_ _ | refine blk_drew ?_ | refine blk_alloc ?_ _)); exact BK226.out) hb); have n4_ := Aside0.mk (blk_below (g := gb232) (o := .cells #[.int .i64 t227, .slice Ao14 t228.length co14] 26 (0, 0)) (by (with_reducible repeat (first | refine blk_drewN ?_ _ | refine blk_drew ?_ | refine blk_alloc ?_ _)); exact BK232.out) hb); have n5_ := Aside0.mk (below_step (by repeat (first | (with_reducible first | exact HB.out | apply below_alloc | apply pw_below_drewN | apply below_drew1 | refine below_set ?_ GE226.out | refine below_set ?_ GE232.out) | exact HB.out)) hb); clear HO_227001; clear HO_233001; clear BK226; clear BK232; clear HB; have HO_227001 := n0_; have HO_233001 := n1_; have HO240 := n2_; have BK226 := n3_; have BK232 := n4_; have HB := n5_; clear n0_ n1_ n2_ n3_ n4_ n5_; (try clear hb); (try clear hb2); (try clear hk); (try clear hi); (try clear ho0)) | ((with_reducible refine gate_dst (N := 9) rfl ?_); refine box_event ?hg (N := 9) ?hd (cs := #[.int .i64 0, .slice none 0 0]) (t := 26) ?hr ?_; (case hd => rfl); (case hg => rfl); (case hr => first | (go_simp; done) | (go_simp; rfl)); intro gb242 hg w43 hbox hb; have n0_ := Aside0.mk (Kd.R_below (by (with_reducible repeat (first | apply Kd.R_alloc | apply Kd.R_drewN | apply Kd.R_drew)); exact HO_227001.out) hb); have n1_ := Aside0.mk (Kd.R_below (by (with_reducible repeat (first | apply Kd.R_alloc | apply Kd.R_drewN | apply Kd.R_drew)); exact HO_233001.out) hb); have n2_ := Aside0.mk (Kd.R_below (by (with_reducible repeat (first | apply Kd.R_alloc | apply Kd.R_drewN | apply Kd.R_drew)); exact HO240.out) hb); have n3_ := Aside0.mk (blk_below (g := gb226) (o := .cells #[.int .i64 t221, .slice Ao9 t222.length co9] 26 (0, 0)) (by (with_reducible repeat (first | refine blk_drewN ?_ _ | refine blk_drew ?_ | refine blk_alloc ?_ _)); exact BK226.out) hb); have n4_ := Aside0.mk (blk_below (g := gb232) (o := .cells #[.int .i64 t227, .slice Ao14 t228.length co14] 26 (0, 0)) (by (with_reducible repeat (first | refine blk_drewN ?_ _ | refine blk_drew ?_ | refine blk_alloc ?_ _)); exact BK232.out) hb); have n5_ := Aside0.mk (below_step (by repeat (first | (with_reducible first | exact HB.out | apply below_alloc | apply pw_below_drewN | apply below_drew1 | refine below_set ?_ GE226.out | refine below_set ?_ GE232.out) | exact HB.out)) hb); have n6_ := Aside0.mk (hbox); have n7_ := Aside0.mk ((by rw [hg]; exact (below_size (by repeat (first | (with_reducible first | exact HB.out | apply below_alloc | apply pw_below_drewN | apply below_drew1 | refine below_set ?_ GE226.out | refine below_set ?_ GE232.out) | exact HB.out))) : w.heap.size ≤ gb242)); have n8_ := Aside0.mk ((by rw [hg]; exact (below_size (by repeat (first | (with_reducible first | exact HB.out | apply below_alloc | apply pw_below_drewN | apply below_drew1 | refine below_set ?_ GE226.out | refine below_set ?_ GE232.out) | exact HB.out))) : w.heap.size ≤ gb242)); have n9_ := Aside0.mk ((by rw [hg]; exact Nat.ne_of_lt (blk_lt (g := gb226) (o := .cells #[.int .i64 t221, .slice Ao9 t222.length co9] 26 (0, 0)) (by (with_reducible repeat (first | refine blk_drewN ?_ _ | refine blk_drew ?_ | refine blk_alloc ?_ _)); exact BK226.out)) : gb226 ≠ gb242)); have n10_ := Aside0.mk ((by rw [hg]; exact Nat.ne_of_gt (blk_lt (g := gb226) (o := .cells #[.int .i64 t221, .slice Ao9 t222.length co9] 26 (0, 0)) (by (with_reducible repeat (first | refine blk_drewN ?_ _ | refine blk_drew ?_ | refine blk_alloc ?_ _)); exact BK226.out)) : gb242 ≠ gb226)); have n11_ := Aside0.mk ((by rw [hg]; exact Nat.ne_of_lt (blk_lt (g := gb232) (o := .cells #[.int .i64 t227, .slice Ao14 t228.length co14] 26 (0, 0)) (by (with_reducible repeat (first | refine blk_drewN ?_ _ | refine blk_drew ?_ | refine blk_alloc ?_ _)); exact BK232.out)) : gb232 ≠ gb242)); have n12_ := Aside0.mk ((by rw [hg]; exact Nat.ne_of_gt (blk_lt (g := gb232) (o := .cells #[.int .i64 t227, .slice Ao14 t228.length co14] 26 (0, 0)) (by (with_reducible repeat (first | refine blk_drewN ?_ _ | refine blk_drew ?_ | refine blk_alloc ?_ _)); exact BK232.out)) : gb242 ≠ gb232)); clear HO_227001; clear HO_233001; clear HO240; clear BK226; clear BK232; clear HB; have HO_227001 := n0_; have HO_233001 := n1_; have HO240 := n2_; have BK226 := n3_; have BK232 := n4_; have HB := n5_; have BK242 := n6_; have GW242 := n7_; have GE242 := n8_; have NB226_242 := n9_; have NB242_226 := n10_; have NB232_242 := n11_; have NB242_232 := n12_; clear n0_ n1_ n2_ n3_ n4_ n5_ n6_ n7_ n8_ n9_ n10_ n11_ n12_; clear hb hbox hg; have hnb44 := NB242_226.out; have hnc44 := NB226_242.out; have hnb45 := NB242_232.out; have hnc45 := NB232_242.out; have hcz46_0 : w43.cell? ⟨gb242, 0, none⟩ = some (.int .i64 0) := (blk_cell BK242.out 0).trans rfl; have hcz46_1 : w43.cell? ⟨gb242, 1, none⟩ = some (.slice none 0 0) := (blk_cell BK242.out 1).trans rfl; have hfz46_0 := blk_frozen BK242.out 0; have hfz46_1 := blk_frozen BK242.out 1; obtain ⟨Ao47, co47, eo47⟩ := Kd.R_slice HO240.out; subst eo47))
              (try simp only [Act.put, List.setIfInBounds_toArray, List.set_cons_zero, List.set_cons_succ])
              go_cut [57] (fun v57 wc => ∃ (kq : Nat) (x57_35 : Bool), v57 = .bool x57_35 ∧ Aside0 (laws_FnExactParseWhole.j1 kq t234 x57_35 t227 t235 = some r) ∧ Aside0 (kq ≤ kj4) ∧ Aside0 (Kd.R (Kd.int .i64) 2 wc w.heap.size (fun k_ => some k_ ≠ ((.slice Ao14 t228.length co14) : Value).ownBlock ∧ some k_ ≠ ((.slice Ao47 t238.length co47) : Value).ownBlock) (.slice Ao9 t222.length co9) t222) ∧ Aside0 (Kd.R (Kd.int .i64) 2 wc w.heap.size (fun k_ => some k_ ≠ ((.slice Ao9 t222.length co9) : Value).ownBlock ∧ some k_ ≠ ((.slice Ao47 t238.length co47) : Value).ownBlock) (.slice Ao14 t228.length co14) t235) ∧ Aside0 (Kd.R (Kd.int .i64) 2 wc w.heap.size (fun k_ => some k_ ≠ ((.slice Ao9 t222.length co9) : Value).ownBlock ∧ some k_ ≠ ((.slice Ao14 t228.length co14) : Value).ownBlock) (.slice Ao47 t238.length co47) t238) ∧ Aside0 (wc.heap[gb226]? = some (.cells #[.int .i64 t221, (.slice Ao9 t222.length co9)] 26 (0, 0))) ∧ Aside0 (wc.heap[gb232]? = some (.cells #[.int .i64 t227, (.slice Ao14 t228.length co14)] 26 (0, 0))) ∧ Aside0 (wc.heap[gb242]? = some (.cells #[.int .i64 t237, (.slice Ao47 t238.length co47)] 26 (0, 0))) ∧ Aside0 (Below w.heap.size w wc))
              case first =>
                have H := HC36.out
                clear HC36
                replace H := Option.bind_eq_some_iff.mp H
                obtain ⟨t243, A480, H⟩ := H
                replace H : (if t243 = true then (laws_FnExactParseWhole.j1 kj4 t234 (t241 != t225) t227 t235) else (laws_FnExactParseWhole.j1 kj4 t234 true t227 t235)) = some r := H
                have A48 := Aside0.mk A480
                clear A480
                by_cases c49 : t243 = true
                · subst c49
                  have H1 : (laws_FnExactParseWhole.j1 kj4 t234 (t241 != t225) t227 t235) = some r := by rw [if_pos rfl] at H; exact H
                  clear H
                  have H := H1
                  clear H1
                  have H' := Aside0.mk H
                  clear H
                  have hnb50 := NB242_226.out
                  have hnc50 := NB226_242.out
                  have hnb51 := NB242_232.out
                  have hnc51 := NB232_242.out
                  have hcz52_0 : w43.cell? ⟨gb242, 0, none⟩ = some (.int .i64 0) := (blk_cell BK242.out 0).trans rfl
                  have hcz52_1 : w43.cell? ⟨gb242, 1, none⟩ = some (.slice none 0 0) := (blk_cell BK242.out 1).trans rfl
                  have hfz52_0 := blk_frozen BK242.out 0
                  have hfz52_1 := blk_frozen BK242.out 1
                  have hnb53 := NB226_232.out
                  have hnc53 := NB232_226.out
                  have hcz54_0 : w43.cell? ⟨gb226, 0, none⟩ = some (.int .i64 t221) := (blk_cell BK226.out 0).trans rfl
                  have hcz54_1 : w43.cell? ⟨gb226, 1, none⟩ = some (.slice Ao9 t222.length co9) := (blk_cell BK226.out 1).trans rfl
                  have hfz54_0 := blk_frozen BK226.out 0
                  have hfz54_1 := blk_frozen BK226.out 1
                  go_wp2_with (first | ((with_reducible refine gate_callee (f := 11) rfl ?_); refine goesL_ (some 51) rfl rfl Try.func11 (by kernel_rfl) rfl #[.agg #[.int .i64 t237, .slice Ao47 t238.length co47], .agg #[.int .i64 t221, .slice Ao9 t222.length co9]] rfl (by (try simp only [List.map_toArray, List.map_cons, List.map_nil]); first | done | rfl | (simp only [List.length_drop, List.length_take]; rfl)) ?_; (with_reducible refine (laws_eqWhole.calls kj4 t237 _ _ t238 t221 _ _ t222 true _ ?side1 ?side2 ?side3 ?side4 A48.out).mono ?_); (case side1 => refine (Kd.R_reads' (e := 2) (base := w.heap.size) (ok := fun k_ => ((True ∧ some k_ ≠ (.slice Ao9 t222.length co9 : Value).ownBlock) ∧ some k_ ≠ (.slice Ao14 t228.length co14 : Value).ownBlock)) (n := t238.length) (c := co47) ?_).2.2; exact (by (with_reducible repeat (first | apply Kd.R_alloc | apply Kd.R_drewN | apply Kd.R_drew)); exact (Kd.R_mono (Kd.R_far (p := ⟨gb242, 1, none⟩) (Kd.R_far (p := ⟨gb242, 0, none⟩) (Kd.R_types HO240.out BK242.out (by decide)) (fun _ hk => hk.2) (.int .i64 t237)) (fun _ hk => hk.2) (.slice Ao47 t238.length co47)) (fun _ h_ => h_.1)))); (case side2 => exact (Kd.R_reads' HO240.out).2.1); (case side3 => refine (Kd.R_reads' (e := 2) (base := w.heap.size) (ok := fun k_ => (some k_ ≠ (.slice Ao14 t228.length co14 : Value).ownBlock ∧ some k_ ≠ (.slice Ao47 t238.length co47 : Value).ownBlock)) (n := t222.length) (c := co9) ?_).2.2; exact (by (with_reducible repeat (first | apply Kd.R_alloc | apply Kd.R_drewN | apply Kd.R_drew)); exact (Kd.R_mono (Kd.R_far (p := ⟨gb242, 1, none⟩) (Kd.R_far (p := ⟨gb242, 0, none⟩) (Kd.R_types HO_227001.out BK242.out (by decide)) (fun _ hk => hk.2) (.int .i64 t237)) (fun _ hk => hk.2) (.slice Ao47 t238.length co47)) (fun _ h_ => h_.1)))); (case side4 => exact (Kd.R_reads' HO_227001.out).2.1); rintro e w55 ⟨rfl, hb⟩; refine ⟨_, rfl, ?_⟩; have n0_ := Aside0.mk (Kd.R_below (by (with_reducible repeat (first | apply Kd.R_alloc | apply Kd.R_drewN | apply Kd.R_drew)); exact (Kd.R_mono (Kd.R_far (p := ⟨gb242, 1, none⟩) (Kd.R_far (p := ⟨gb242, 0, none⟩) (Kd.R_types HO_227001.out BK242.out (by decide)) (fun _ hk => hk.2) (.int .i64 t237)) (fun _ hk => hk.2) (.slice Ao47 t238.length co47)) (fun _ h_ => h_.1))) hb); have n1_ := Aside0.mk (Kd.R_below (by (with_reducible repeat (first | apply Kd.R_alloc | apply Kd.R_drewN | apply Kd.R_drew)); exact (Kd.R_mono (Kd.R_far (p := ⟨gb242, 1, none⟩) (Kd.R_far (p := ⟨gb242, 0, none⟩) (Kd.R_types HO_233001.out BK242.out (by decide)) (fun _ hk => hk.2) (.int .i64 t237)) (fun _ hk => hk.2) (.slice Ao47 t238.length co47)) (fun _ h_ => h_.1))) hb); have n2_ := Aside0.mk (Kd.R_below (by (with_reducible repeat (first | apply Kd.R_alloc | apply Kd.R_drewN | apply Kd.R_drew)); exact (Kd.R_mono (Kd.R_far (p := ⟨gb242, 1, none⟩) (Kd.R_far (p := ⟨gb242, 0, none⟩) (Kd.R_types HO240.out BK242.out (by decide)) (fun _ hk => hk.2) (.int .i64 t237)) (fun _ hk => hk.2) (.slice Ao47 t238.length co47)) (fun _ h_ => h_.1))) hb); have n3_ := Aside0.mk (blk_below (g := gb226) (o := .cells #[.int .i64 t221, .slice Ao9 t222.length co9] 26 (0, 0)) (by (with_reducible repeat (first | refine blk_drewN ?_ _ | refine blk_drew ?_ | refine blk_alloc ?_ _)); refine blk_far ?_ NB226_242.out _; (with_reducible repeat (first | refine blk_drewN ?_ _ | refine blk_drew ?_ | refine blk_alloc ?_ _)); refine blk_far ?_ NB226_242.out _; (with_reducible repeat (first | refine blk_drewN ?_ _ | refine blk_drew ?_ | refine blk_alloc ?_ _)); exact BK226.out) hb); have n4_ := Aside0.mk (blk_below (g := gb232) (o := .cells #[.int .i64 t227, .slice Ao14 t228.length co14] 26 (0, 0)) (by (with_reducible repeat (first | refine blk_drewN ?_ _ | refine blk_drew ?_ | refine blk_alloc ?_ _)); refine blk_far ?_ NB232_242.out _; (with_reducible repeat (first | refine blk_drewN ?_ _ | refine blk_drew ?_ | refine blk_alloc ?_ _)); refine blk_far ?_ NB232_242.out _; (with_reducible repeat (first | refine blk_drewN ?_ _ | refine blk_drew ?_ | refine blk_alloc ?_ _)); exact BK232.out) hb); have n5_ := Aside0.mk (blk_below (g := gb242) (o := .cells #[.int .i64 t237, .slice Ao47 t238.length co47] 26 (0, 0)) (by (with_reducible repeat (first | refine blk_drewN ?_ _ | refine blk_drew ?_ | refine blk_alloc ?_ _)); refine blk_put (cs := #[.int .i64 t237, .slice none 0 0]) ?_ 1 _ rfl; (with_reducible repeat (first | refine blk_drewN ?_ _ | refine blk_drew ?_ | refine blk_alloc ?_ _)); refine blk_put (cs := #[.int .i64 0, .slice none 0 0]) ?_ 0 _ rfl; (with_reducible repeat (first | refine blk_drewN ?_ _ | refine blk_drew ?_ | refine blk_alloc ?_ _)); exact BK242.out) hb); have n6_ := Aside0.mk (below_step (by repeat (first | (with_reducible first | exact HB.out | apply below_alloc | apply pw_below_drewN | apply below_drew1 | refine below_set ?_ GE226.out | refine below_set ?_ GE232.out | refine below_set ?_ GE242.out) | exact HB.out)) hb); clear HO_227001; clear HO_233001; clear HO240; clear BK226; clear BK232; clear BK242; clear HB; have HO_227001 := n0_; have HO_233001 := n1_; have HO240 := n2_; have BK226 := n3_; have BK232 := n4_; have BK242 := n5_; have HB := n6_; clear n0_ n1_ n2_ n3_ n4_ n5_ n6_; (try clear hb); (try clear hb2); (try clear hk); (try clear hi)))
                  go_meet
                  case rel => exact ⟨_, ((t241 != t225)), (by first | rfl | (simp; done) | (simp [*]; done)), H', ⟨by have := HJ4.out; first | omega | exact Nat.le_refl _⟩, ⟨by (with_reducible repeat (first | apply Kd.R_alloc | apply Kd.R_drewN | apply Kd.R_drew)); exact HO_227001.out⟩, ⟨by (with_reducible repeat (first | apply Kd.R_alloc | apply Kd.R_drewN | apply Kd.R_drew)); exact HO_233001.out⟩, ⟨by (with_reducible repeat (first | apply Kd.R_alloc | apply Kd.R_drewN | apply Kd.R_drew)); exact Kd.R_mono HO240.out (fun _ hk => ⟨hk.1.2, hk.2⟩)⟩, ⟨by (with_reducible repeat (first | refine blk_drewN ?_ _ | refine blk_drew ?_ | refine blk_alloc ?_ _)); exact BK226.out⟩, ⟨by (with_reducible repeat (first | refine blk_drewN ?_ _ | refine blk_drew ?_ | refine blk_alloc ?_ _)); exact BK232.out⟩, ⟨by (with_reducible repeat (first | refine blk_drewN ?_ _ | refine blk_drew ?_ | refine blk_alloc ?_ _)); exact BK242.out⟩, ⟨by repeat (first | (with_reducible first | exact HB.out | apply below_alloc | apply pw_below_drewN | apply below_drew1 | refine below_set ?_ GE226.out | refine below_set ?_ GE232.out | refine below_set ?_ GE242.out) | exact HB.out)⟩⟩
                · replace c49 := Bool.eq_false_iff.mpr c49
                  subst c49
                  have H1 : (laws_FnExactParseWhole.j1 kj4 t234 true t227 t235) = some r := by rw [if_neg (show ¬ (false = true) by decide)] at H; exact H
                  clear H
                  have H := H1
                  clear H1
                  have H' := Aside0.mk H
                  clear H
                  have hnb56 := NB242_226.out
                  have hnc56 := NB226_242.out
                  have hnb57 := NB242_232.out
                  have hnc57 := NB232_242.out
                  have hcz58_0 : w43.cell? ⟨gb242, 0, none⟩ = some (.int .i64 0) := (blk_cell BK242.out 0).trans rfl
                  have hcz58_1 : w43.cell? ⟨gb242, 1, none⟩ = some (.slice none 0 0) := (blk_cell BK242.out 1).trans rfl
                  have hfz58_0 := blk_frozen BK242.out 0
                  have hfz58_1 := blk_frozen BK242.out 1
                  have hnb59 := NB226_232.out
                  have hnc59 := NB232_226.out
                  have hcz60_0 : w43.cell? ⟨gb226, 0, none⟩ = some (.int .i64 t221) := (blk_cell BK226.out 0).trans rfl
                  have hcz60_1 : w43.cell? ⟨gb226, 1, none⟩ = some (.slice Ao9 t222.length co9) := (blk_cell BK226.out 1).trans rfl
                  have hfz60_0 := blk_frozen BK226.out 0
                  have hfz60_1 := blk_frozen BK226.out 1
                  go_wp2_with (first | ((with_reducible refine gate_callee (f := 11) rfl ?_); refine goesL_ (some 51) rfl rfl Try.func11 (by kernel_rfl) rfl #[.agg #[.int .i64 t237, .slice Ao47 t238.length co47], .agg #[.int .i64 t221, .slice Ao9 t222.length co9]] rfl (by (try simp only [List.map_toArray, List.map_cons, List.map_nil]); first | done | rfl | (simp only [List.length_drop, List.length_take]; rfl)) ?_; (with_reducible refine (laws_eqWhole.calls kj4 t237 _ _ t238 t221 _ _ t222 false _ ?side1 ?side2 ?side3 ?side4 A48.out).mono ?_); (case side1 => refine (Kd.R_reads' (e := 2) (base := w.heap.size) (ok := fun k_ => ((True ∧ some k_ ≠ (.slice Ao9 t222.length co9 : Value).ownBlock) ∧ some k_ ≠ (.slice Ao14 t228.length co14 : Value).ownBlock)) (n := t238.length) (c := co47) ?_).2.2; exact (by (with_reducible repeat (first | apply Kd.R_alloc | apply Kd.R_drewN | apply Kd.R_drew)); exact (Kd.R_mono (Kd.R_far (p := ⟨gb242, 1, none⟩) (Kd.R_far (p := ⟨gb242, 0, none⟩) (Kd.R_types HO240.out BK242.out (by decide)) (fun _ hk => hk.2) (.int .i64 t237)) (fun _ hk => hk.2) (.slice Ao47 t238.length co47)) (fun _ h_ => h_.1)))); (case side2 => exact (Kd.R_reads' HO240.out).2.1); (case side3 => refine (Kd.R_reads' (e := 2) (base := w.heap.size) (ok := fun k_ => (some k_ ≠ (.slice Ao14 t228.length co14 : Value).ownBlock ∧ some k_ ≠ (.slice Ao47 t238.length co47 : Value).ownBlock)) (n := t222.length) (c := co9) ?_).2.2; exact (by (with_reducible repeat (first | apply Kd.R_alloc | apply Kd.R_drewN | apply Kd.R_drew)); exact (Kd.R_mono (Kd.R_far (p := ⟨gb242, 1, none⟩) (Kd.R_far (p := ⟨gb242, 0, none⟩) (Kd.R_types HO_227001.out BK242.out (by decide)) (fun _ hk => hk.2) (.int .i64 t237)) (fun _ hk => hk.2) (.slice Ao47 t238.length co47)) (fun _ h_ => h_.1)))); (case side4 => exact (Kd.R_reads' HO_227001.out).2.1); rintro e w61 ⟨rfl, hb⟩; refine ⟨_, rfl, ?_⟩; have n0_ := Aside0.mk (Kd.R_below (by (with_reducible repeat (first | apply Kd.R_alloc | apply Kd.R_drewN | apply Kd.R_drew)); exact (Kd.R_mono (Kd.R_far (p := ⟨gb242, 1, none⟩) (Kd.R_far (p := ⟨gb242, 0, none⟩) (Kd.R_types HO_227001.out BK242.out (by decide)) (fun _ hk => hk.2) (.int .i64 t237)) (fun _ hk => hk.2) (.slice Ao47 t238.length co47)) (fun _ h_ => h_.1))) hb); have n1_ := Aside0.mk (Kd.R_below (by (with_reducible repeat (first | apply Kd.R_alloc | apply Kd.R_drewN | apply Kd.R_drew)); exact (Kd.R_mono (Kd.R_far (p := ⟨gb242, 1, none⟩) (Kd.R_far (p := ⟨gb242, 0, none⟩) (Kd.R_types HO_233001.out BK242.out (by decide)) (fun _ hk => hk.2) (.int .i64 t237)) (fun _ hk => hk.2) (.slice Ao47 t238.length co47)) (fun _ h_ => h_.1))) hb); have n2_ := Aside0.mk (Kd.R_below (by (with_reducible repeat (first | apply Kd.R_alloc | apply Kd.R_drewN | apply Kd.R_drew)); exact (Kd.R_mono (Kd.R_far (p := ⟨gb242, 1, none⟩) (Kd.R_far (p := ⟨gb242, 0, none⟩) (Kd.R_types HO240.out BK242.out (by decide)) (fun _ hk => hk.2) (.int .i64 t237)) (fun _ hk => hk.2) (.slice Ao47 t238.length co47)) (fun _ h_ => h_.1))) hb); have n3_ := Aside0.mk (blk_below (g := gb226) (o := .cells #[.int .i64 t221, .slice Ao9 t222.length co9] 26 (0, 0)) (by (with_reducible repeat (first | refine blk_drewN ?_ _ | refine blk_drew ?_ | refine blk_alloc ?_ _)); refine blk_far ?_ NB226_242.out _; (with_reducible repeat (first | refine blk_drewN ?_ _ | refine blk_drew ?_ | refine blk_alloc ?_ _)); refine blk_far ?_ NB226_242.out _; (with_reducible repeat (first | refine blk_drewN ?_ _ | refine blk_drew ?_ | refine blk_alloc ?_ _)); exact BK226.out) hb); have n4_ := Aside0.mk (blk_below (g := gb232) (o := .cells #[.int .i64 t227, .slice Ao14 t228.length co14] 26 (0, 0)) (by (with_reducible repeat (first | refine blk_drewN ?_ _ | refine blk_drew ?_ | refine blk_alloc ?_ _)); refine blk_far ?_ NB232_242.out _; (with_reducible repeat (first | refine blk_drewN ?_ _ | refine blk_drew ?_ | refine blk_alloc ?_ _)); refine blk_far ?_ NB232_242.out _; (with_reducible repeat (first | refine blk_drewN ?_ _ | refine blk_drew ?_ | refine blk_alloc ?_ _)); exact BK232.out) hb); have n5_ := Aside0.mk (blk_below (g := gb242) (o := .cells #[.int .i64 t237, .slice Ao47 t238.length co47] 26 (0, 0)) (by (with_reducible repeat (first | refine blk_drewN ?_ _ | refine blk_drew ?_ | refine blk_alloc ?_ _)); refine blk_put (cs := #[.int .i64 t237, .slice none 0 0]) ?_ 1 _ rfl; (with_reducible repeat (first | refine blk_drewN ?_ _ | refine blk_drew ?_ | refine blk_alloc ?_ _)); refine blk_put (cs := #[.int .i64 0, .slice none 0 0]) ?_ 0 _ rfl; (with_reducible repeat (first | refine blk_drewN ?_ _ | refine blk_drew ?_ | refine blk_alloc ?_ _)); exact BK242.out) hb); have n6_ := Aside0.mk (below_step (by repeat (first | (with_reducible first | exact HB.out | apply below_alloc | apply pw_below_drewN | apply below_drew1 | refine below_set ?_ GE226.out | refine below_set ?_ GE232.out | refine below_set ?_ GE242.out) | exact HB.out)) hb); clear HO_227001; clear HO_233001; clear HO240; clear BK226; clear BK232; clear BK242; clear HB; have HO_227001 := n0_; have HO_233001 := n1_; have HO240 := n2_; have BK226 := n3_; have BK232 := n4_; have BK242 := n5_; have HB := n6_; clear n0_ n1_ n2_ n3_ n4_ n5_ n6_; (try clear hb); (try clear hb2); (try clear hk); (try clear hi)))
                  go_meet
                  case rel => exact ⟨_, (true), (by first | rfl | (simp; done) | (simp [*]; done)), H', ⟨by have := HJ4.out; first | omega | exact Nat.le_refl _⟩, ⟨by (with_reducible repeat (first | apply Kd.R_alloc | apply Kd.R_drewN | apply Kd.R_drew)); exact HO_227001.out⟩, ⟨by (with_reducible repeat (first | apply Kd.R_alloc | apply Kd.R_drewN | apply Kd.R_drew)); exact HO_233001.out⟩, ⟨by (with_reducible repeat (first | apply Kd.R_alloc | apply Kd.R_drewN | apply Kd.R_drew)); exact Kd.R_mono HO240.out (fun _ hk => ⟨hk.1.2, hk.2⟩)⟩, ⟨by (with_reducible repeat (first | refine blk_drewN ?_ _ | refine blk_drew ?_ | refine blk_alloc ?_ _)); exact BK226.out⟩, ⟨by (with_reducible repeat (first | refine blk_drewN ?_ _ | refine blk_drew ?_ | refine blk_alloc ?_ _)); exact BK232.out⟩, ⟨by (with_reducible repeat (first | refine blk_drewN ?_ _ | refine blk_drew ?_ | refine blk_alloc ?_ _)); exact BK242.out⟩, ⟨by repeat (first | (with_reducible first | exact HB.out | apply below_alloc | apply pw_below_drewN | apply below_drew1 | refine below_set ?_ GE226.out | refine below_set ?_ GE232.out | refine below_set ?_ GE242.out) | exact HB.out)⟩⟩
              case rest =>
                clear HC36
                try clear c1
                try clear c2
                try clear c2b0
                try clear c2b1
                try clear p2
                try clear c3
                try clear c4
                try clear c5
                try clear c11
                try clear c12
                try clear c13
                try clear c14
                try clear c15
                try clear c16
                try clear c17
                try clear c21
                try clear c25
                try clear c28
                try clear c28b0
                try clear c29
                try clear c34
                try clear c34b0
                try clear c34b1
                try clear c37
                try clear c44
                try clear c45
                try clear c49
                try clear c50
                try clear c51
                try clear c53
                try clear c56
                try clear c57
                try clear c59
                try clear hcz13_0
                try clear hcz13_1
                try clear hcz18_0
                try clear hcz18_1
                try clear hcz19_0
                try clear hcz19_1
                try clear hcz22_0
                try clear hcz22_1
                try clear hcz23_0
                try clear hcz23_1
                try clear hcz30_0
                try clear hcz30_1
                try clear hcz32_0
                try clear hcz32_1
                try clear hcz38_0
                try clear hcz38_1
                try clear hcz40_0
                try clear hcz40_1
                try clear hcz46_0
                try clear hcz46_1
                try clear hcz52_0
                try clear hcz52_1
                try clear hcz54_0
                try clear hcz54_1
                try clear hcz58_0
                try clear hcz58_1
                try clear hcz60_0
                try clear hcz60_1
                try clear hcz8_0
                try clear hcz8_1
                try clear hfz13_0
                try clear hfz13_1
                try clear hfz18_0
                try clear hfz18_1
                try clear hfz19_0
                try clear hfz19_1
                try clear hfz22_0
                try clear hfz22_1
                try clear hfz23_0
                try clear hfz23_1
                try clear hfz30_0
                try clear hfz30_1
                try clear hfz32_0
                try clear hfz32_1
                try clear hfz38_0
                try clear hfz38_1
                try clear hfz40_0
                try clear hfz40_1
                try clear hfz46_0
                try clear hfz46_1
                try clear hfz52_0
                try clear hfz52_1
                try clear hfz54_0
                try clear hfz54_1
                try clear hfz58_0
                try clear hfz58_1
                try clear hfz60_0
                try clear hfz60_1
                try clear hfz8_0
                try clear hfz8_1
                try clear p2
                obtain ⟨kq, x57_35, rfl, HA, HJ35, HO_227001, HO_233001, HO_243001, BK226, BK232, BK242, HB⟩ := hcut
                have hl233001_35 := (Kd.R_reads' HO_233001.out).1
                rw [hl233001_35] at HO_233001
                (try simp only [hl233001_35])
                (try simp only [hl233001_35] at BK226)
                (try simp only [hl233001_35] at BK232)
                (try simp only [hl233001_35] at BK242)
                (try simp only [hl233001_35] at HO_227001)
                (try simp only [hl233001_35] at HO_243001)
                cases kq with
                | zero => exact absurd HA.out (by simp [laws_FnExactParseWhole.j1])
                | succ kj35 =>
                  have H := HA.out
                  clear HA
                  simp only [laws_FnExactParseWhole.j1] at H
                  by_cases c62 : x57_35 = true
                  · subst c62
                    have H1 : (some false) = some r := by rw [if_pos rfl] at H; exact H
                    clear H
                    have H := H1
                    clear H1
                    obtain rfl := Option.some.inj H
                    go_wp2
                    go_ret
                    exact ⟨by first | rfl | (simp [errW_none, errW_some] <;> rfl) | (simp [*, errW_none, errW_some] <;> rfl), by repeat (first | (with_reducible first | exact HB.out | apply below_alloc | apply pw_below_drewN | apply below_drew1 | refine below_set ?_ GE226.out | refine below_set ?_ GE232.out | refine below_set ?_ GE242.out) | exact HB.out)⟩
                  · replace c62 := Bool.eq_false_iff.mpr c62
                    subst c62
                    have H1 : ((laws_heldWhole.f kj35 t227 t235 1).bind fun t244 => (if t244 < 0 then (some false) else (if t244 = t234 then (some true) else (some false)))) = some r := by rw [if_neg (show ¬ (false = true) by decide)] at H; exact H
                    clear H
                    have H := H1
                    clear H1
                    replace H := Option.bind_eq_some_iff.mp H
                    obtain ⟨t244, A630, H⟩ := H
                    replace H : (if t244 < 0 then (some false) else (if t244 = t234 then (some true) else (some false))) = some r := H
                    have A63 := Aside0.mk A630
                    clear A630
                    by_cases c64 : t244 < 0
                    · rw [if_pos c64] at H
                      have c64b0 : decide (t244 < 0) = true := decide_eq_true c64
                      clear c64
                      obtain rfl := Option.some.inj H
                      have hnb65 := NB232_226.out
                      have hnc65 := NB226_232.out
                      have hnb66 := NB232_242.out
                      have hnc66 := NB242_232.out
                      have hcz67_0 : wc.cell? ⟨gb232, 0, none⟩ = some (.int .i64 t227) := (blk_cell BK232.out 0).trans rfl
                      have hcz67_1 : wc.cell? ⟨gb232, 1, none⟩ = some (.slice Ao14 t235.length co14) := (blk_cell BK232.out 1).trans rfl
                      have hfz67_0 := blk_frozen BK232.out 0
                      have hfz67_1 := blk_frozen BK232.out 1
                      go_wp2_with (first | ((with_reducible refine gate_callee (f := 13) rfl ?_); refine goesL_ (some 60) rfl rfl Try.func13 (by kernel_rfl) rfl #[.agg #[.int .i64 t227, .slice Ao14 t235.length co14], .int .i64 1] rfl (by (try simp only [List.map_toArray, List.map_cons, List.map_nil]); first | done | rfl | (simp only [List.length_drop, List.length_take]; rfl)) ?_; (with_reducible refine (laws_heldWhole.calls kj35 t227 _ _ t235 1 t244 _ ?side1 ?side2 A63.out).mono ?_); (case side1 => repeat (first | exact (Kd.R_reads' HO_233001.out).2.2 | (with_reducible refine Kd.C_alloc ?_ _) | (with_reducible refine Kd.C_drewN ?_ _) | (with_reducible refine Kd.C_drew ?_))); (case side2 => exact (Kd.R_reads' HO_233001.out).2.1); rintro e w68 ⟨rfl, hb⟩; refine ⟨_, rfl, ?_⟩; have n0_ := Aside0.mk (Kd.R_below (by (with_reducible repeat (first | apply Kd.R_alloc | apply Kd.R_drewN | apply Kd.R_drew)); exact HO_227001.out) hb); have n1_ := Aside0.mk (Kd.R_below (by (with_reducible repeat (first | apply Kd.R_alloc | apply Kd.R_drewN | apply Kd.R_drew)); exact HO_233001.out) hb); have n2_ := Aside0.mk (Kd.R_below (by (with_reducible repeat (first | apply Kd.R_alloc | apply Kd.R_drewN | apply Kd.R_drew)); exact HO_243001.out) hb); have n3_ := Aside0.mk (blk_below (g := gb226) (o := .cells #[.int .i64 t221, .slice Ao9 t222.length co9] 26 (0, 0)) (by (with_reducible repeat (first | refine blk_drewN ?_ _ | refine blk_drew ?_ | refine blk_alloc ?_ _)); exact BK226.out) hb); have n4_ := Aside0.mk (blk_below (g := gb232) (o := .cells #[.int .i64 t227, .slice Ao14 t235.length co14] 26 (0, 0)) (by (with_reducible repeat (first | refine blk_drewN ?_ _ | refine blk_drew ?_ | refine blk_alloc ?_ _)); exact BK232.out) hb); have n5_ := Aside0.mk (blk_below (g := gb242) (o := .cells #[.int .i64 t237, .slice Ao47 t238.length co47] 26 (0, 0)) (by (with_reducible repeat (first | refine blk_drewN ?_ _ | refine blk_drew ?_ | refine blk_alloc ?_ _)); exact BK242.out) hb); have n6_ := Aside0.mk (below_step (by repeat (first | (with_reducible first | exact HB.out | apply below_alloc | apply pw_below_drewN | apply below_drew1 | refine below_set ?_ GE226.out | refine below_set ?_ GE232.out | refine below_set ?_ GE242.out) | exact HB.out)) hb); clear HO_227001; clear HO_233001; clear HO_243001; clear BK226; clear BK232; clear BK242; clear HB; have HO_227001 := n0_; have HO_233001 := n1_; have HO_243001 := n2_; have BK226 := n3_; have BK232 := n4_; have BK242 := n5_; have HB := n6_; clear n0_ n1_ n2_ n3_ n4_ n5_ n6_; (try clear hb); (try clear hb2); (try clear hk); (try clear hi)))
                      go_ret
                      exact ⟨by first | rfl | (simp [errW_none, errW_some] <;> rfl) | (simp [*, errW_none, errW_some] <;> rfl), by repeat (first | (with_reducible first | exact HB.out | apply below_alloc | apply pw_below_drewN | apply below_drew1 | refine below_set ?_ GE226.out | refine below_set ?_ GE232.out | refine below_set ?_ GE242.out) | exact HB.out)⟩
                    · rw [if_neg c64] at H
                      have c64b0 : decide (t244 < 0) = false := decide_eq_false c64
                      clear c64
                      by_cases c69 : t244 = t234
                      · rw [if_pos c69] at H
                        have c69b0 : (t244 == t234) = true := beq_iff_eq.mpr c69
                        have c69b1 : (t244 != t234) = false := bne_eq_false_iff_eq.mpr c69
                        clear c69
                        obtain rfl := Option.some.inj H
                        have hnb70 := NB232_226.out
                        have hnc70 := NB226_232.out
                        have hnb71 := NB232_242.out
                        have hnc71 := NB242_232.out
                        have hcz72_0 : wc.cell? ⟨gb232, 0, none⟩ = some (.int .i64 t227) := (blk_cell BK232.out 0).trans rfl
                        have hcz72_1 : wc.cell? ⟨gb232, 1, none⟩ = some (.slice Ao14 t235.length co14) := (blk_cell BK232.out 1).trans rfl
                        have hfz72_0 := blk_frozen BK232.out 0
                        have hfz72_1 := blk_frozen BK232.out 1
                        go_wp2_with (first | ((with_reducible refine gate_callee (f := 13) rfl ?_); refine goesL_ (some 60) rfl rfl Try.func13 (by kernel_rfl) rfl #[.agg #[.int .i64 t227, .slice Ao14 t235.length co14], .int .i64 1] rfl (by (try simp only [List.map_toArray, List.map_cons, List.map_nil]); first | done | rfl | (simp only [List.length_drop, List.length_take]; rfl)) ?_; (with_reducible refine (laws_heldWhole.calls kj35 t227 _ _ t235 1 t244 _ ?side1 ?side2 A63.out).mono ?_); (case side1 => repeat (first | exact (Kd.R_reads' HO_233001.out).2.2 | (with_reducible refine Kd.C_alloc ?_ _) | (with_reducible refine Kd.C_drewN ?_ _) | (with_reducible refine Kd.C_drew ?_))); (case side2 => exact (Kd.R_reads' HO_233001.out).2.1); rintro e w73 ⟨rfl, hb⟩; refine ⟨_, rfl, ?_⟩; have n0_ := Aside0.mk (Kd.R_below (by (with_reducible repeat (first | apply Kd.R_alloc | apply Kd.R_drewN | apply Kd.R_drew)); exact HO_227001.out) hb); have n1_ := Aside0.mk (Kd.R_below (by (with_reducible repeat (first | apply Kd.R_alloc | apply Kd.R_drewN | apply Kd.R_drew)); exact HO_233001.out) hb); have n2_ := Aside0.mk (Kd.R_below (by (with_reducible repeat (first | apply Kd.R_alloc | apply Kd.R_drewN | apply Kd.R_drew)); exact HO_243001.out) hb); have n3_ := Aside0.mk (blk_below (g := gb226) (o := .cells #[.int .i64 t221, .slice Ao9 t222.length co9] 26 (0, 0)) (by (with_reducible repeat (first | refine blk_drewN ?_ _ | refine blk_drew ?_ | refine blk_alloc ?_ _)); exact BK226.out) hb); have n4_ := Aside0.mk (blk_below (g := gb232) (o := .cells #[.int .i64 t227, .slice Ao14 t235.length co14] 26 (0, 0)) (by (with_reducible repeat (first | refine blk_drewN ?_ _ | refine blk_drew ?_ | refine blk_alloc ?_ _)); exact BK232.out) hb); have n5_ := Aside0.mk (blk_below (g := gb242) (o := .cells #[.int .i64 t237, .slice Ao47 t238.length co47] 26 (0, 0)) (by (with_reducible repeat (first | refine blk_drewN ?_ _ | refine blk_drew ?_ | refine blk_alloc ?_ _)); exact BK242.out) hb); have n6_ := Aside0.mk (below_step (by repeat (first | (with_reducible first | exact HB.out | apply below_alloc | apply pw_below_drewN | apply below_drew1 | refine below_set ?_ GE226.out | refine below_set ?_ GE232.out | refine below_set ?_ GE242.out) | exact HB.out)) hb); clear HO_227001; clear HO_233001; clear HO_243001; clear BK226; clear BK232; clear BK242; clear HB; have HO_227001 := n0_; have HO_233001 := n1_; have HO_243001 := n2_; have BK226 := n3_; have BK232 := n4_; have BK242 := n5_; have HB := n6_; clear n0_ n1_ n2_ n3_ n4_ n5_ n6_; (try clear hb); (try clear hb2); (try clear hk); (try clear hi)))
                        go_ret
                        exact ⟨by first | rfl | (simp [errW_none, errW_some] <;> rfl) | (simp [*, errW_none, errW_some] <;> rfl), by repeat (first | (with_reducible first | exact HB.out | apply below_alloc | apply pw_below_drewN | apply below_drew1 | refine below_set ?_ GE226.out | refine below_set ?_ GE232.out | refine below_set ?_ GE242.out) | exact HB.out)⟩
                      · rw [if_neg c69] at H
                        have c69b0 : (t244 == t234) = false := beq_eq_false_iff_ne.mpr c69
                        have c69b1 : (t244 != t234) = true := bne_iff_ne.mpr c69
                        obtain rfl := Option.some.inj H
                        have hnb74 := NB232_226.out
                        have hnc74 := NB226_232.out
                        have hnb75 := NB232_242.out
                        have hnc75 := NB242_232.out
                        have hcz76_0 : wc.cell? ⟨gb232, 0, none⟩ = some (.int .i64 t227) := (blk_cell BK232.out 0).trans rfl
                        have hcz76_1 : wc.cell? ⟨gb232, 1, none⟩ = some (.slice Ao14 t235.length co14) := (blk_cell BK232.out 1).trans rfl
                        have hfz76_0 := blk_frozen BK232.out 0
                        have hfz76_1 := blk_frozen BK232.out 1
                        go_wp2_with (first | ((with_reducible refine gate_callee (f := 13) rfl ?_); refine goesL_ (some 60) rfl rfl Try.func13 (by kernel_rfl) rfl #[.agg #[.int .i64 t227, .slice Ao14 t235.length co14], .int .i64 1] rfl (by (try simp only [List.map_toArray, List.map_cons, List.map_nil]); first | done | rfl | (simp only [List.length_drop, List.length_take]; rfl)) ?_; (with_reducible refine (laws_heldWhole.calls kj35 t227 _ _ t235 1 t244 _ ?side1 ?side2 A63.out).mono ?_); (case side1 => repeat (first | exact (Kd.R_reads' HO_233001.out).2.2 | (with_reducible refine Kd.C_alloc ?_ _) | (with_reducible refine Kd.C_drewN ?_ _) | (with_reducible refine Kd.C_drew ?_))); (case side2 => exact (Kd.R_reads' HO_233001.out).2.1); rintro e w77 ⟨rfl, hb⟩; refine ⟨_, rfl, ?_⟩; have n0_ := Aside0.mk (Kd.R_below (by (with_reducible repeat (first | apply Kd.R_alloc | apply Kd.R_drewN | apply Kd.R_drew)); exact HO_227001.out) hb); have n1_ := Aside0.mk (Kd.R_below (by (with_reducible repeat (first | apply Kd.R_alloc | apply Kd.R_drewN | apply Kd.R_drew)); exact HO_233001.out) hb); have n2_ := Aside0.mk (Kd.R_below (by (with_reducible repeat (first | apply Kd.R_alloc | apply Kd.R_drewN | apply Kd.R_drew)); exact HO_243001.out) hb); have n3_ := Aside0.mk (blk_below (g := gb226) (o := .cells #[.int .i64 t221, .slice Ao9 t222.length co9] 26 (0, 0)) (by (with_reducible repeat (first | refine blk_drewN ?_ _ | refine blk_drew ?_ | refine blk_alloc ?_ _)); exact BK226.out) hb); have n4_ := Aside0.mk (blk_below (g := gb232) (o := .cells #[.int .i64 t227, .slice Ao14 t235.length co14] 26 (0, 0)) (by (with_reducible repeat (first | refine blk_drewN ?_ _ | refine blk_drew ?_ | refine blk_alloc ?_ _)); exact BK232.out) hb); have n5_ := Aside0.mk (blk_below (g := gb242) (o := .cells #[.int .i64 t237, .slice Ao47 t238.length co47] 26 (0, 0)) (by (with_reducible repeat (first | refine blk_drewN ?_ _ | refine blk_drew ?_ | refine blk_alloc ?_ _)); exact BK242.out) hb); have n6_ := Aside0.mk (below_step (by repeat (first | (with_reducible first | exact HB.out | apply below_alloc | apply pw_below_drewN | apply below_drew1 | refine below_set ?_ GE226.out | refine below_set ?_ GE232.out | refine below_set ?_ GE242.out) | exact HB.out)) hb); clear HO_227001; clear HO_233001; clear HO_243001; clear BK226; clear BK232; clear BK242; clear HB; have HO_227001 := n0_; have HO_233001 := n1_; have HO_243001 := n2_; have BK226 := n3_; have BK232 := n4_; have BK242 := n5_; have HB := n6_; clear n0_ n1_ n2_ n3_ n4_ n5_ n6_; (try clear hb); (try clear hb2); (try clear hk); (try clear hi)))
                        go_ret
                        exact ⟨by first | rfl | (simp [errW_none, errW_some] <;> rfl) | (simp [*, errW_none, errW_some] <;> rfl), by repeat (first | (with_reducible first | exact HB.out | apply below_alloc | apply pw_below_drewN | apply below_drew1 | refine below_set ?_ GE226.out | refine below_set ?_ GE232.out | refine below_set ?_ GE242.out) | exact HB.out)⟩
            · rw [if_neg c34] at H
              have c34b0 : (t236 == t234) = false := beq_eq_false_iff_ne.mpr c34
              have c34b1 : (t236 != t234) = true := bne_iff_ne.mpr c34
              obtain rfl := Option.some.inj H
              have hnb78 := NB232_226.out
              have hnc78 := NB226_232.out
              have hcz79_0 : wc.cell? ⟨gb232, 0, none⟩ = some (.int .i64 t227) := (blk_cell BK232.out 0).trans rfl
              have hcz79_1 : wc.cell? ⟨gb232, 1, none⟩ = some (.slice Ao14 t228.length co14) := (blk_cell BK232.out 1).trans rfl
              have hfz79_0 := blk_frozen BK232.out 0
              have hfz79_1 := blk_frozen BK232.out 1
              go_wp2_with (first | ((with_reducible refine gate_callee (f := 12) rfl ?_); refine goesL_ (some 35) rfl rfl Try.func12 (by kernel_rfl) rfl #[.agg #[.int .i64 t227, .slice Ao14 t228.length co14], .int .i64 1] rfl (by (try simp only [List.map_toArray, List.map_cons, List.map_nil]); first | done | rfl | (simp only [List.length_drop, List.length_take]; rfl)) ?_; (with_reducible refine (laws_markWhole.calls kj4 t227 (fun k_ => some k_ = (.slice Ao14 t228.length co14 : Value).ownBlock) (.slice Ao14 t228.length co14) t228 1 t234 t235 w _ ?side1 ?side2 A26.out).mono ?_); (case side1 => repeat (first | (with_reducible first | exact HB.out | apply below_alloc | apply pw_below_drewN | apply below_drew1 | refine below_set ?_ GE226.out | refine below_set ?_ GE232.out) | exact HB.out)); (case side2 => exact Kd.R_tight rfl HO_233001.out); rintro e w80 ⟨rfl, hy0, hb, hkp⟩; refine ⟨_, rfl, ?_⟩; have n0_ := Aside0.mk (Kd.R_mono (ok' := fun k_ => some k_ ≠ (.slice Ao14 t228.length co14 : Value).ownBlock) (Kd.R_keptB (HO_227001.out) hkp (fun k_ hk_ hs_ => (hk_) hs_)) (fun k_ hk_ => hk_.1)); have n1_ := Aside0.mk (Kd.R_reok rfl hy0 (fun k_ e_ => HO_233001.out.1 k_ e_)); have n2_ := Aside0.mk (blk_kept (by (with_reducible repeat (first | refine blk_drewN ?_ _ | refine blk_drew ?_ | refine blk_alloc ?_ _)); exact BK226.out) hkp (fun hs_ => (fun e_ => (Kd.R_ne HO_233001.out BK226.out (by decide)) e_) hs_)); have n3_ := Aside0.mk (blk_kept (by (with_reducible repeat (first | refine blk_drewN ?_ _ | refine blk_drew ?_ | refine blk_alloc ?_ _)); exact BK232.out) hkp (fun hs_ => (fun e_ => (Kd.R_ne HO_233001.out BK232.out (by decide)) e_) hs_)); have n4_ := Aside0.mk (hb); clear HO_227001; clear HO_233001; clear BK226; clear BK232; clear HB; have HO_227001 := n0_; have HO_233001 := n1_; have BK226 := n2_; have BK232 := n3_; have HB := n4_; clear n0_ n1_ n2_ n3_ n4_; (try clear hb); (try clear hkp); (try clear hy0); have hcz81_0 : w80.cell? ⟨gb232, 0, none⟩ = some (.int .i64 t227) := (blk_cell BK232.out 0).trans rfl; have hcz81_1 : w80.cell? ⟨gb232, 1, none⟩ = some (.slice Ao14 t228.length co14) := (blk_cell BK232.out 1).trans rfl; have hfz81_0 := blk_frozen BK232.out 0; have hfz81_1 := blk_frozen BK232.out 1) | ((with_reducible refine gate_callee (f := 13) rfl ?_); refine goesL_ (some 38) rfl rfl Try.func13 (by kernel_rfl) rfl #[.agg #[.int .i64 t227, .slice Ao14 t235.length co14], .int .i64 1] rfl (by (try simp only [List.map_toArray, List.map_cons, List.map_nil]); first | done | (rw [show t235.length = t228.length from (Kd.R_reads' HO_233001.out).1.symm] <;> rfl) | rfl | (simp only [List.length_drop, List.length_take]; rfl)) ?_; (with_reducible refine (laws_heldWhole.calls kj4 t227 _ _ t235 1 t236 _ ?side1 ?side2 A27.out).mono ?_); (case side1 => repeat (first | exact (Kd.R_reads' HO_233001.out).2.2 | (with_reducible refine Kd.C_alloc ?_ _) | (with_reducible refine Kd.C_drewN ?_ _) | (with_reducible refine Kd.C_drew ?_))); (case side2 => rw [show t235.length = t228.length from (Kd.R_reads' HO_233001.out).1.symm]; exact (Kd.R_reads' HO_233001.out).2.1); rintro e w82 ⟨rfl, hb⟩; refine ⟨_, rfl, ?_⟩; have n0_ := Aside0.mk (Kd.R_below (by (with_reducible repeat (first | apply Kd.R_alloc | apply Kd.R_drewN | apply Kd.R_drew)); exact HO_227001.out) hb); have n1_ := Aside0.mk (Kd.R_below (by (with_reducible repeat (first | apply Kd.R_alloc | apply Kd.R_drewN | apply Kd.R_drew)); exact HO_233001.out) hb); have n2_ := Aside0.mk (blk_below (g := gb226) (o := .cells #[.int .i64 t221, .slice Ao9 t222.length co9] 26 (0, 0)) (by (with_reducible repeat (first | refine blk_drewN ?_ _ | refine blk_drew ?_ | refine blk_alloc ?_ _)); exact BK226.out) hb); have n3_ := Aside0.mk (blk_below (g := gb232) (o := .cells #[.int .i64 t227, .slice Ao14 t228.length co14] 26 (0, 0)) (by (with_reducible repeat (first | refine blk_drewN ?_ _ | refine blk_drew ?_ | refine blk_alloc ?_ _)); exact BK232.out) hb); have n4_ := Aside0.mk (below_step (by repeat (first | (with_reducible first | exact HB.out | apply below_alloc | apply pw_below_drewN | apply below_drew1 | refine below_set ?_ GE226.out | refine below_set ?_ GE232.out) | exact HB.out)) hb); clear HO_227001; clear HO_233001; clear BK226; clear BK232; clear HB; have HO_227001 := n0_; have HO_233001 := n1_; have BK226 := n2_; have BK232 := n3_; have HB := n4_; clear n0_ n1_ n2_ n3_ n4_; (try clear hb); (try clear hb2); (try clear hk); (try clear hi)))
              go_ret
              exact ⟨by first | rfl | (simp [errW_none, errW_some] <;> rfl) | (simp [*, errW_none, errW_some] <;> rfl), by repeat (first | (with_reducible first | exact HB.out | apply below_alloc | apply pw_below_drewN | apply below_drew1 | refine below_set ?_ GE226.out | refine below_set ?_ GE232.out) | exact HB.out)⟩
def laws_FnExactParseWhole.Pure : Prop := ∀ (a0 : ByteArray), a0.size ≤ 140737488351232 → ∃ k, laws_FnExactParseWhole.f k a0 = some true
theorem laws_FnExactParseWhole.walk (P : laws_FnExactParseWhole.Pure) (a0 : ByteArray) (w : World) (w0 : a0.size ≤ 140737488351232) :
    Calls Try.prog 4 #[.string a0] w fun e w' => e = .returned (.bool true) ∧ Below w.heap.size w w' := by
  obtain ⟨k, h⟩ := P a0 w0
  refine (laws_FnExactParseWhole.calls k a0 true w h).mono ?_
  rintro e w' ⟨rfl, hd⟩
  exact ⟨rfl, hd⟩
end Go.Proofs.Ythanlckjfghnkaa.PW
end
