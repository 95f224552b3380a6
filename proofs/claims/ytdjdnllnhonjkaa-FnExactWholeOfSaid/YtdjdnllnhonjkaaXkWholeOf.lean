/- Walk: an integer as a whole number. -/
import Derived.Test.YtdjdnllnhonjkaaMu
set_option linter.unusedVariables false
set_option linter.unusedSimpArgs false
namespace Go.Proofs.Ytdjdnllnhonjkaa.PW
open Go.RowKit Go.Proofs.YtdjdnllnhonjkaaW.PrintWords Go.Proofs.Ytdjdnllnhonjkaa.Pc Go.Proofs.Ytdjdnllnhonjkaa.Pb Go.Proofs.Ytdjdnllnhonjkaa.Pw Go.Proofs.Ytdjdnllnhonjkaa.Ma Go.Proofs.Ytdjdnllnhonjkaa.Mb Go.Proofs.Ytdjdnllnhonjkaa.Mc Go.Proofs.Ytdjdnllnhonjkaa.Md Go.Proofs.Ytdjdnllnhonjkaa.Me Go.Proofs.Ytdjdnllnhonjkaa.Mg Go.Proofs.Ytdjdnllnhonjkaa.Mh Go.Proofs.Ytdjdnllnhonjkaa.Mn Go.Proofs.Ytdjdnllnhonjkaa.Mq Go.Proofs.Ytdjdnllnhonjkaa.Mr Go.Proofs.Ytdjdnllnhonjkaa.Mu Dg

def impl_WholeOf.f (a0 : Int) : Option (Int × List Int × Int) := if -9223372036854775808 ≤ a0 ∧ a0 ≤ 9223372036854775807 then some (fit a0) else none

set_option maxHeartbeats 1600000 in
theorem impl_WholeOf.calls (a0 : Int) (r1 : Int) (r2 : List Int) (r3 : Int) (w : World) (h : impl_WholeOf.f a0 = some (r1, r2, r3)) :
    Calls Try.prog 23 #[.int .i64 a0] w fun e w' => ∃ v1_ : Value, e = .returned (.tuple #[.agg #[.int .i64 r1, v1_], .int .i64 r3]) ∧ Kd.R (Kd.int .i64) 2 w' w.heap.size (fun _ => True) v1_ r2 ∧ Below w.heap.size w w' := by
  unfold impl_WholeOf.f at h
  by_cases hr : -9223372036854775808 ≤ a0 ∧ a0 ≤ 9223372036854775807
  · rw [if_pos hr] at h
    have h1 := Option.some.inj h
    have hN := fun (W : World) => newInt (w := W) hr.1 hr.2
    have hb : bl a0.natAbs ≤ 64 := bl_le (k := 64) (by omega)
    have hW := fun (W : World) (p : Nat) (hz : Z W p a0) => Mr.whole hz (by omega)
    rw [h1] at hW
    have HN := Lib.hid hN
    have HW := Lib.hid hW
    clear hN hW h h1 hb hr
    go_enter Try.func23, Try.ntmps23
    go_wp2_with fail
    refine (HN.out _).mono ?_
    rintro e w1 ⟨g, rfl, hz, hg, hb⟩
    have HZ := Lib.hid hz
    have hbx : w1.heap[w.heap.size]? = some (.cells #[.int .i64 0, .slice none 0 0] 28 (0, 0)) := (hb.block _ (by simp)).trans (heap_alloc_new w _)
    have HBX := Lib.hid hbx
    have HB := Lib.hid (below_then (Ma.below_alloc w _) hb)
    clear hz hg hb hbx
    go_wp2_with fail
    refine (HW.out _ _ HZ.out).mono ?_
    rintro e w2 ⟨u, rfl, hR, hb⟩
    obtain ⟨A, c, rfl⟩ := Kd.R_slice hR
    have hlt : w.heap.size < w1.heap.size := (Array.getElem?_eq_some_iff.1 HBX.out).1
    have hbx := (hb.block _ hlt).trans HBX.out
    obtain ⟨e0, e1, f0, f1⟩ := cellsOf hbx
    have HBX2 := Lib.hid hbx
    have HR := Lib.hid (Kd.R_lower (base' := w.heap.size) hR (by omega))
    have HB2 := Lib.hid (below_then HB.out hb)
    clear hR hb hbx HBX HB HZ hlt HN HW
    go_wp2
    have hst := storedW (s := r1) (u := .slice A r2.length c) HBX2.out HB2.out (Nat.le_refl _) HR.out
    exact bodyPost_ret (results_ct rfl _ _ w.heap.size 28 #[.int .i64 r1, .slice A r2.length c] (0, 0) _ rfl hst.1 Try.underlying28 rfl sizeW) rfl ⟨_, rfl, hst.2.1, hst.2.2⟩
  · rw [if_neg hr] at h
    cases h
end Go.Proofs.Ytdjdnllnhonjkaa.PW
