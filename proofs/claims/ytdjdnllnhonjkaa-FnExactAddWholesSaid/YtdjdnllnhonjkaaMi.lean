/- Walks: comparing integers; sums, differences, products. -/
import Derived.Test.YtdjdnllnhonjkaaKc
set_option linter.unusedVariables false
set_option linter.unusedSimpArgs false
namespace Go.Proofs.Ytdjdnllnhonjkaa.Mi
open Go.RowKit Go.Proofs.YtdjdnllnhonjkaaW.PrintWords Go.Proofs.Ytdjdnllnhonjkaa.PW Go.Proofs.Ytdjdnllnhonjkaa.Pc Go.Proofs.Ytdjdnllnhonjkaa.Ma Go.Proofs.Ytdjdnllnhonjkaa.Mb Go.Proofs.Ytdjdnllnhonjkaa.Mc Go.Proofs.Ytdjdnllnhonjkaa.Md Go.Proofs.Ytdjdnllnhonjkaa.Me Dg
open Pm (sgn)

set_option maxHeartbeats 800000 in
theorem cmp {w : World} {p q : Nat} {x y : Int} (hx : Z w p x) (hy : Z w q y) (h1 : bl x.natAbs ≤ 1073741823) (h2 : bl y.natAbs ≤ 1073741823) :
    Calls Try.prog 72 #[.pointer (some ⟨p, 0, none⟩), .pointer (some ⟨q, 0, none⟩)] w (Tells w (.int .i64 (sgn (x - y)))) := by
  obtain ⟨A, c, k0, k1, hm, hp⟩ := Z.open hx
  obtain ⟨B, d, j0, j1, hn, hq⟩ := Z.open hy
  have hC := fun (W : World) (hb : Below w.heap.size w W) => cCmp (hm.below hb) (hn.below hb) (by omega) (by omega)
  have hD := fun (W : World) (hb : Below w.heap.size w W) => cCmp (hn.below hb) (hm.below hb) (by omega) (by omega)
  by_cases hxn : x < 0 <;> by_cases hyn : y < 0
  · have e : sgn ((y.natAbs : Int) - x.natAbs) = sgn (x - y) := by congr 1; omega
    rw [e] at hD
    rw [show decide (x < 0) = true by simpa using hxn] at k0
    rw [show decide (y < 0) = true by simpa using hyn] at j0
    have HD := Lib.hid hD
    clear hC hD e hxn hyn h1 h2 hm hn hx hy
    go_enter Try.func72, Try.ntmps72
    go_wp2
    go_quiet ((go_at_call 110; exact Calls.quiet_of (HD.out _ (below_drawn _))))
    go_wp2
    go_ret
    exact ⟨rfl, _, rfl⟩
  · have e : sgn (x - y) = -1 := by unfold sgn; rw [if_pos (by omega)]
    rw [e]
    rw [show decide (x < 0) = true by simpa using hxn] at k0
    rw [show decide (y < 0) = false by simpa using hyn] at j0
    clear hC hD e hxn hyn h1 h2 hm hn hx hy
    go_enter Try.func72, Try.ntmps72
    go_wp2
    go_ret
    exact ⟨rfl, 0, rfl⟩
  · have e : sgn (x - y) = 1 := by unfold sgn; rw [if_neg (by omega), if_neg (by omega)]
    rw [e]
    rw [show decide (x < 0) = false by simpa using hxn] at k0
    rw [show decide (y < 0) = true by simpa using hyn] at j0
    clear hC hD e hxn hyn h1 h2 hm hn hx hy
    go_enter Try.func72, Try.ntmps72
    go_wp2
    go_ret
    exact ⟨rfl, 0, rfl⟩
  · have e : sgn ((x.natAbs : Int) - y.natAbs) = sgn (x - y) := by congr 1; omega
    rw [e] at hC
    rw [show decide (x < 0) = false by simpa using hxn] at k0
    rw [show decide (y < 0) = false by simpa using hyn] at j0
    have HC := Lib.hid hC
    clear hC hD e hxn hyn h1 h2 hm hn hx hy
    go_enter Try.func72, Try.ntmps72
    go_wp2
    go_quiet ((go_at_call 110; exact Calls.quiet_of (HC.out _ (below_drawn _))))
    go_wp2
    go_ret
    exact ⟨rfl, _, rfl⟩

/-- A sign and a size. -/
def sv (n : Bool) (m : Nat) : Int := if n = true then -(m : Int) else m

theorem sv_abs (z : Int) : sv (decide (z < 0)) z.natAbs = z := natAbs_if z

set_option maxHeartbeats 1600000 in
theorem plus {w : World} {p q : Nat} {x : Int} {neg : Bool} {B : Option Addr} {d m : Nat} (hp : Blk w p) (hx : Z w q x) (hn : Mg w B d (D m)) (h1 : bl x.natAbs ≤ 536870912) (h2 : bl m ≤ 536870912) :
    Calls Try.prog 122 #[.pointer (some ⟨p, 0, none⟩), .pointer (some ⟨q, 0, none⟩), .bool neg, .slice B (D m).length d] w (Puts w p (x + sv neg m)) := by
  obtain ⟨A, c, k0, k1, hm, hq⟩ := Z.open hx
  have hadd := bl_add_le x.natAbs m
  have hA := fun (W : World) (hb : Below w.heap.size w W) => (cAdd (hm.below hb) (hn.below hb) (by omega) (by omega)).mono fun e w' h => GivesMg.of hb h
  have hC := fun (W : World) (hb : Below w.heap.size w W) => cCmp (hm.below hb) (hn.below hb) (by omega) (by omega)
  by_cases hs : decide (x < 0) = neg
  · -- one sign
    have e : (if neg = true then -((x.natAbs + m : Nat) : Int) else ((x.natAbs + m : Nat) : Int)) = x + sv neg m := by
      rw [← sv_abs x, hs]; unfold sv
      cases neg <;> simp <;> omega
    have hP := fun (w1 : World) (A' : Option Addr) (c' : Nat) h1 h2 => put_of (w1 := w1) (A := A') (c := c') (neg := neg) (n := x.natAbs + m) hp h1 h2 (by omega)
    rw [e] at hP
    rw [hs] at k0
    have HP := Lib.hid hP
    have HA := Lib.hid hA
    clear hA hC hP e hs hadd h1 h2 hm hn hx hp
    cases neg
    all_goals
      go_enter Try.func122, Try.ntmps122
      go_wp2_with fail
      refine (HA.out _ (Below.refl _ _)).mono ?_
      rintro e w1 ⟨A', c', rfl, hm', hb'⟩
      have HPM := Lib.hid (HP.out w1 A' c' hb' hm')
      clear hm' hb'
      go_wp2_with fail
      refine HPM.out.mono ?_
      rintro e w2 ⟨rfl, hz2, hg2⟩
      have HE := Lib.hid (show Puts w p _ _ w2 from ⟨rfl, hz2, hg2⟩)
      clear hz2 hg2
      go_wp2
      go_ret
      exact HE.out
  · have hneq : neg = !decide (x < 0) := by cases neg <;> cases h : decide (x < 0) <;> simp_all
    by_cases hge : m ≤ x.natAbs
    · have hS := fun (W : World) (hb : Below w.heap.size w W) => (cSub (hm.below hb) (hn.below hb) (by omega) hge).mono fun e w' h => GivesMg.of hb h
      have hmo := bl_mono (Nat.sub_le x.natAbs m)
      have e : (if decide (x < 0) = true then -((x.natAbs - m : Nat) : Int) else ((x.natAbs - m : Nat) : Int)) = x + sv neg m := by
        rw [hneq]; unfold sv
        by_cases h : x < 0 <;> simp [h] <;> omega
      have hP := fun (w1 : World) (A' : Option Addr) (c' : Nat) h1 h2 => put_of (w1 := w1) (A := A') (c := c') (neg := decide (x < 0)) (n := x.natAbs - m) hp h1 h2 (by omega)
      rw [e] at hP
      have es : sgn ((x.natAbs : Int) - m) = sgn ((x.natAbs - m : Nat) : Int) := by congr 1; omega
      have es0 : 0 ≤ sgn ((x.natAbs : Int) - m) := by unfold sgn; split <;> (try split) <;> omega
      have HP := Lib.hid hP
      have HS := Lib.hid hS
      have HC := Lib.hid hC
      clear hA hC hP hS e hs hadd h1 h2 hm hn hx hp es hmo hge
      generalize sgn ((x.natAbs : Int) - m) = sg at *
      rw [hneq] at *
      clear hneq
      generalize decide (x < 0) = b at *
      cases b
      all_goals
        go_enter Try.func122, Try.ntmps122
        go_wp2_with fail
        refine (HC.out _ (Below.refl _ _)).mono ?_
        rintro e w1 ⟨rfl, n, rfl⟩
        go_wp2_with fail
        go_region_with (first | (go_at_call 139; refine (HS.out _ (by first | exact below_drawn _ | exact (below_drawn _).drew)).mono ?_; rintro e w1 ⟨A', c', rfl, hm', hb'⟩; have HPM := Lib.hid (HP.out w1 A' c' hb' hm'); have k0' := (hb'.cell (p := ⟨q, 0, none⟩) hq).trans k0; clear hm' hb') | (go_at_call 115; refine HPM.out.mono ?_; rintro e w2 ⟨rfl, hz2, hg2⟩; have HE := Lib.hid (show Puts w p _ _ w2 from ⟨rfl, hz2, hg2⟩); clear hz2 hg2))
        all_goals go_wp2
        all_goals go_ret
        all_goals exact HE.out
    · have hS := fun (W : World) (hb : Below w.heap.size w W) => (cSub (hn.below hb) (hm.below hb) (by omega) (by omega)).mono fun e w' h => GivesMg.of hb h
      have hmo := bl_mono (Nat.sub_le m x.natAbs)
      have e : (if neg = true then -((m - x.natAbs : Nat) : Int) else ((m - x.natAbs : Nat) : Int)) = x + sv neg m := by
        rw [hneq]; unfold sv
        by_cases h : x < 0 <;> simp [h] <;> omega
      have hP := fun (w1 : World) (A' : Option Addr) (c' : Nat) h1 h2 => put_of (w1 := w1) (A := A') (c := c') (neg := neg) (n := m - x.natAbs) hp h1 h2 (by omega)
      rw [e] at hP
      have es : sgn ((x.natAbs : Int) - m) = -1 := by unfold sgn; rw [if_pos (by omega)]
      rw [es] at hC
      have HP := Lib.hid hP
      have HS := Lib.hid hS
      have HC := Lib.hid hC
      clear hA hC hP hS e hs hadd h1 h2 hm hn hx hp es hmo hge
      rw [hneq] at *
      clear hneq
      generalize decide (x < 0) = b at *
      cases b
      all_goals
        go_enter Try.func122, Try.ntmps122
        go_wp2_with fail
        refine (HC.out _ (Below.refl _ _)).mono ?_
        rintro e w1 ⟨rfl, n, rfl⟩
        go_wp2_with fail
        refine (HS.out _ (below_drawn _)).mono ?_
        rintro e w1 ⟨A', c', rfl, hm', hb'⟩
        have HPM := Lib.hid (HP.out w1 A' c' hb' hm')
        clear hm' hb'
        go_wp2_with fail
        refine HPM.out.mono ?_
        rintro e w2 ⟨rfl, hz2, hg2⟩
        have HE := Lib.hid (show Puts w p _ _ w2 from ⟨rfl, hz2, hg2⟩)
        clear hz2 hg2
        go_wp2
        go_ret
        exact HE.out
end Go.Proofs.Ytdjdnllnhonjkaa.Mi
