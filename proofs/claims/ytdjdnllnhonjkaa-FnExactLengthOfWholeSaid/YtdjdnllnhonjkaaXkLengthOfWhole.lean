/- Walk: the length of a whole number. -/
import Derived.Test.YtdjdnllnhonjkaaKc
set_option linter.unusedVariables false
set_option linter.unusedSimpArgs false
namespace Go.Proofs.Ytdjdnllnhonjkaa.PW
open Go.RowKit Go.Proofs.YtdjdnllnhonjkaaW.PrintWords Go.Proofs.Ytdjdnllnhonjkaa.Pc Go.Proofs.Ytdjdnllnhonjkaa.Pb Go.Proofs.Ytdjdnllnhonjkaa.Pw Go.Proofs.Ytdjdnllnhonjkaa.Ma Go.Proofs.Ytdjdnllnhonjkaa.Mb Go.Proofs.Ytdjdnllnhonjkaa.Mc Go.Proofs.Ytdjdnllnhonjkaa.Md Go.Proofs.Ytdjdnllnhonjkaa.Me Go.Proofs.Ytdjdnllnhonjkaa.Mg Go.Proofs.Ytdjdnllnhonjkaa.Mh Dg

def impl_LengthOfWhole.f (a0_0 : Int) (l0_1 : List Int) : Option (Int × Int) := if isW a0_0 l0_1 = true then some (((bl (wv a0_0 l0_1).natAbs : Nat) : Int), 0) else some (0, 1)

set_option maxHeartbeats 800000 in
theorem impl_LengthOfWhole.calls (a0_0 : Int) (A0_1 : Option Addr) (c0_1 : Nat) (l0_1 : List Int) (r1 : Int) (r2 : Int) (w : World) (hr0_1 : Kd.C (Kd.int .i64) w A0_1 l0_1.length l0_1) (hc0_1 : l0_1.length ≤ c0_1) (h : impl_LengthOfWhole.f a0_0 l0_1 = some (r1, r2)) :
    Calls Try.prog 20 #[.agg #[.int .i64 a0_0, .slice A0_1 l0_1.length c0_1]] w fun e w' => e = .returned (.tuple #[.int .i64 r1, .int .i64 r2]) ∧ Below w.heap.size w w' := by
  unfold impl_LengthOfWhole.f at h
  have hI := fun (W : World) (hb : Below w.heap.size w W) => cIs (s := a0_0) (C_at hr0_1 hb) hc0_1 hr0_1.2.1
  cases hw : isW a0_0 l0_1 with
  | false =>
    rw [hw] at h hI
    rw [if_neg (by simp)] at h
    obtain ⟨rfl, rfl⟩ := Prod.mk.inj (Option.some.inj h)
    have HI := Lib.hid hI
    clear hI h hw hr0_1 hc0_1
    go_enter Try.func20, Try.ntmps20
    go_wp2_with fail
    refine (HI.out _ (below_alloc w _)).mono ?_
    rintro e w1 ⟨rfl, hb⟩
    have HB1 := Lib.hid (below_then (below_alloc w _) hb)
    clear hb
    go_wp2
    go_ret2
    exact ⟨rfl, HB1.out⟩
  | true =>
    have hbl := (isW_eq hw).2.2
    have hT := fun (W : World) (hb : Below w.heap.size w W) => cBig (c := c0_1) (C_at hr0_1 hb) hw
    rw [hw] at h hI
    rw [if_pos rfl] at h
    obtain ⟨rfl, rfl⟩ := Prod.mk.inj (Option.some.inj h)
    have HI := Lib.hid hI
    have HT := Lib.hid hT
    clear hI hT h hw hr0_1 hc0_1
    go_enter Try.func20, Try.ntmps20
    go_wp2_with fail
    refine (HI.out _ (below_alloc w _)).mono ?_
    rintro e w1 ⟨rfl, hb⟩
    have hbx := (hb.block w.heap.size (by simp)).trans (heap_alloc_new w _)
    have c0 := blk_cell hbx 0
    have c1 := blk_cell hbx 1
    have HB1 := Lib.hid (below_then (below_alloc w _) hb)
    clear hb hbx
    go_wp2_with fail
    refine (HT.out w1 HB1.out).mono ?_
    rintro e w2 ⟨g, rfl, hz, hg, hb2⟩
    have HL := Lib.hid (Me.bitLen hz (by omega))
    have HB2 := Lib.hid (below_then HB1.out hb2)
    clear hz hg hb2 c0 c1
    go_wp2_with fail
    refine HL.out.mono ?_
    rintro e w3 ⟨rfl, n, rfl⟩
    go_wp2
    go_ret2
    exact ⟨rfl, below_then HB2.out (below_drawn n)⟩
end Go.Proofs.Ytdjdnllnhonjkaa.PW
