/- Walk: the integer of a whole number. -/
import Derived.Test.YtdjdnllnhonjkaaMv
set_option linter.unusedVariables false
set_option linter.unusedSimpArgs false
namespace Go.Proofs.Ytdjdnllnhonjkaa.PW
open Go.RowKit Go.Proofs.YtdjdnllnhonjkaaW.PrintWords Go.Proofs.Ytdjdnllnhonjkaa.Pc Go.Proofs.Ytdjdnllnhonjkaa.Pb Go.Proofs.Ytdjdnllnhonjkaa.Pw Go.Proofs.Ytdjdnllnhonjkaa.Ma Go.Proofs.Ytdjdnllnhonjkaa.Mb Go.Proofs.Ytdjdnllnhonjkaa.Mc Go.Proofs.Ytdjdnllnhonjkaa.Md Go.Proofs.Ytdjdnllnhonjkaa.Me Go.Proofs.Ytdjdnllnhonjkaa.Mg Go.Proofs.Ytdjdnllnhonjkaa.Mh Go.Proofs.Ytdjdnllnhonjkaa.Mr Go.Proofs.Ytdjdnllnhonjkaa.Mv Dg

def impl_IntegerOf.f (a0_0 : Int) (l0_1 : List Int) : Option (Int × Int) := if isW a0_0 l0_1 = true then (if in64 (wv a0_0 l0_1) = true then some (wv a0_0 l0_1, 0) else some (0, 3)) else some (0, 1)

set_option maxHeartbeats 800000 in
theorem impl_IntegerOf.calls (a0_0 : Int) (A0_1 : Option Addr) (c0_1 : Nat) (l0_1 : List Int) (r1 : Int) (r2 : Int) (w : World) (hr0_1 : Kd.C (Kd.int .i64) w A0_1 l0_1.length l0_1) (hc0_1 : l0_1.length ≤ c0_1) (h : impl_IntegerOf.f a0_0 l0_1 = some (r1, r2)) :
    Calls Try.prog 29 #[.agg #[.int .i64 a0_0, .slice A0_1 l0_1.length c0_1]] w fun e w' => e = .returned (.tuple #[.int .i64 r1, .int .i64 r2]) ∧ Below w.heap.size w w' := by
  unfold impl_IntegerOf.f at h
  have hI := fun (W : World) (hb : Below w.heap.size w W) => cIs (s := a0_0) (C_at hr0_1 hb) hc0_1 hr0_1.2.1
  have HI := Lib.hid hI
  have HBW := Lib.hid (oneBox w a0_0 A0_1 l0_1.length c0_1)
  clear hI
  cases hw : isW a0_0 l0_1 with
  | false =>
    rw [hw] at h HI
    rw [if_neg (by simp)] at h
    obtain ⟨rfl, rfl⟩ := Prod.mk.inj (Option.some.inj h)
    clear h hw hr0_1 hc0_1
    go_enter Try.func29, Try.ntmps29
    go_wp2_with fail
    refine (HI.out _ (HBW.out _ (Below.refl _ _)).1).mono ?_
    rintro e w1 ⟨rfl, hb⟩
    have HB1 := Lib.hid (HBW.out _ (hb.mono (by simp))).1
    clear hb
    go_wp2
    go_ret2
    exact ⟨rfl, HB1.out⟩
  | true =>
    have b0 := (isW_eq hw).2.2
    have hT := fun (W : World) (hb : Below w.heap.size w W) => cBig (c := c0_1) (C_at hr0_1 hb) hw
    rw [hw] at h HI
    rw [if_pos rfl] at h
    have hIs := fun (W : World) (g : Nat) (hz : Z W g (wv a0_0 l0_1)) => isInt64 hz (by omega)
    have HT := Lib.hid hT
    have HIS := Lib.hid hIs
    clear hT hIs hw hr0_1 hc0_1
    cases hi : in64 (wv a0_0 l0_1) with
    | false =>
      rw [hi, if_neg (by simp)] at h
      obtain ⟨rfl, rfl⟩ := Prod.mk.inj (Option.some.inj h)
      rw [hi] at HIS
      clear h hi b0
      go_enter Try.func29, Try.ntmps29
      go_wp2_with fail
      refine (HI.out _ (HBW.out _ (Below.refl _ _)).1).mono ?_
      rintro e w1 ⟨rfl, hb⟩
      obtain ⟨h1', c0, c1, hs⟩ := HBW.out _ (hb.mono (by simp))
      have HB1 := Lib.hid h1'
      clear hb h1'
      go_wp2_with fail
      refine (HT.out w1 HB1.out).mono ?_
      rintro e w2 ⟨g, rfl, hz, hg, hb2⟩
      have HZ := Lib.hid hz
      have HB2 := Lib.hid (below_then HB1.out hb2)
      clear hz hg hb2 c0 c1
      go_wp2_with fail
      refine (HIS.out _ _ HZ.out).mono ?_
      rintro e w3 ⟨rfl, n, rfl⟩
      go_wp2
      go_ret2
      exact ⟨rfl, below_then HB2.out (below_drawn n)⟩
    | true =>
      rw [hi, if_pos rfl] at h
      obtain ⟨rfl, rfl⟩ := Prod.mk.inj (Option.some.inj h)
      rw [hi] at HIS
      have hr : -9223372036854775808 ≤ wv a0_0 l0_1 ∧ wv a0_0 l0_1 ≤ 9223372036854775807 := of_decide_eq_true hi
      have hV := fun (W : World) (g : Nat) (hz : Z W g (wv a0_0 l0_1)) => Mk.int64 hz hr.1 hr.2
      have HV := Lib.hid hV
      clear h hi b0 hr hV
      go_enter Try.func29, Try.ntmps29
      go_wp2_with fail
      refine (HI.out _ (HBW.out _ (Below.refl _ _)).1).mono ?_
      rintro e w1 ⟨rfl, hb⟩
      obtain ⟨h1', c0, c1, hs⟩ := HBW.out _ (hb.mono (by simp))
      have HB1 := Lib.hid h1'
      clear hb h1'
      go_wp2_with fail
      refine (HT.out w1 HB1.out).mono ?_
      rintro e w2 ⟨g, rfl, hz, hg, hb2⟩
      have HZ := Lib.hid hz
      have HB2 := Lib.hid (below_then HB1.out hb2)
      clear hz hg hb2 c0 c1
      go_wp2_with fail
      refine (HIS.out _ _ HZ.out).mono ?_
      rintro e w3 ⟨rfl, n, rfl⟩
      have HZ2 := Lib.hid (HZ.out.below (below_drawn n))
      go_wp2_with fail
      refine (HV.out _ _ HZ2.out).mono ?_
      rintro e w4 ⟨rfl, rfl⟩
      go_wp2
      go_ret2
      exact ⟨rfl, below_then HB2.out (below_drawn n)⟩
end Go.Proofs.Ytdjdnllnhonjkaa.PW
