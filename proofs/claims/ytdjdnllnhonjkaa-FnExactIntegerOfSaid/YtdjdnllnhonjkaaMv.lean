/- Walks: whether an integer is one of 64 bits. -/
import Derived.Test.YtdjdnllnhonjkaaMu
set_option linter.unusedVariables false
set_option linter.unusedSimpArgs false
namespace Go.Proofs.Ytdjdnllnhonjkaa.Mv
open Go.RowKit Go.Proofs.YtdjdnllnhonjkaaW.PrintWords Go.Proofs.Ytdjdnllnhonjkaa.PW Go.Proofs.Ytdjdnllnhonjkaa.Pc Go.Proofs.Ytdjdnllnhonjkaa.Ma Go.Proofs.Ytdjdnllnhonjkaa.Mb Go.Proofs.Ytdjdnllnhonjkaa.Mc Go.Proofs.Ytdjdnllnhonjkaa.Md Go.Proofs.Ytdjdnllnhonjkaa.Me Go.Proofs.Ytdjdnllnhonjkaa.Mk Dg

theorem bl_lt_iff (n k : Nat) : bl n < k + 1 ↔ n < 2 ^ k := by
  constructor
  · intro h
    exact Nat.lt_of_lt_of_le (lt_bl n) (Nat.pow_le_pow_right (by decide) (by omega))
  · intro h
    have := bl_le (k := k) h
    omega

def in64 (z : Int) : Bool := decide (-9223372036854775808 ≤ z ∧ z ≤ 9223372036854775807)

set_option maxHeartbeats 1600000 in
theorem isInt64 {w : World} {q : Nat} {z : Int} (hz : Z w q z) (h1 : bl z.natAbs ≤ 1073741824) :
    Calls Try.prog 73 #[.pointer (some ⟨q, 0, none⟩)] w (Tells w (.bool (in64 z))) := by
  have hB := fun (W : World) (hb : Below w.heap.size w W) => Me.bitLen (hz.below hb) h1
  have hL := fun (W : World) (hb : Below w.heap.size w W) => Mk.low (hz.below hb)
  have hC : ∀ (W : World), Below w.heap.size w W → W.cell? ⟨q, 0, none⟩ = some (.bool (decide (z < 0))) := fun W hb => by
    obtain ⟨A, c, k0, _⟩ := Z.open (hz.below hb)
    exact k0
  have HB := Lib.hid hB
  have HL := Lib.hid hL
  have HC := Lib.hid hC
  have c0 := hC w (Below.refl _ _)
  clear hB hL hC hz
  have h63 := bl_lt_iff z.natAbs 63
  have h64 := bl_lt_iff z.natAbs 64
  have hE : in64 z = (decide (bl z.natAbs < 64) || (decide (z < 0) && decide (bl z.natAbs = 64) && decide (z.natAbs % 18446744073709551616 = 9223372036854775808))) := by
    rw [Bool.eq_iff_iff]
    simp only [in64, Bool.or_eq_true, Bool.and_eq_true, decide_eq_true_eq]
    omega
  have HE := Lib.hid hE
  clear h63 h64 hE
  generalize bl z.natAbs = b at *
  generalize z.natAbs % 18446744073709551616 = m at *
  by_cases hb : b < 64
  · rw [decide_eq_true hb, Bool.true_or] at HE
    go_enter Try.func73, Try.ntmps73
    go_wp2_with fail
    refine (HB.out _ (Below.refl _ _)).mono ?_
    rintro e w1 ⟨rfl, n, rfl⟩
    go_wp2
    go_ret
    exact ⟨by rw [HE.out]; rfl, n, rfl⟩
  · rw [decide_eq_false hb, Bool.false_or] at HE
    by_cases hn : z < 0
    · rw [decide_eq_true hn, Bool.true_and] at HE
      by_cases h64 : b = 64
      · subst h64
        rw [decide_eq_true rfl, Bool.true_and] at HE
        clear hb
        by_cases hm : m = 9223372036854775808
        all_goals
          first | rw [decide_eq_true hm] at HE | rw [decide_eq_false hm] at HE
          go_enter Try.func73, Try.ntmps73
          go_wp2_with fail
          refine (HB.out _ (Below.refl _ _)).mono ?_
          rintro e w1 ⟨rfl, n, rfl⟩
          have c1 := HC.out _ (below_drawn n)
          rw [decide_eq_true hn] at c0 c1
          go_wp2_with fail
          refine (HB.out _ (below_drawn n)).mono ?_
          rintro e w2 ⟨rfl, n2, rfl⟩
          go_wp2_with fail
          refine (HL.out _ (below_drawn _)).mono ?_
          rintro e w3 ⟨rfl, rfl⟩
          have hmi : ((m : Int) = 9223372036854775808) = (m = 9223372036854775808) := by apply propext; omega
          clear HB HL HC
          go_wp2
          go_ret
          first | exact ⟨by rw [HE.out]; rfl, _, rfl⟩ | exact ⟨by rw [HE.out]; simp [*], _, rfl⟩
      · rw [decide_eq_false h64, Bool.false_and] at HE
        go_enter Try.func73, Try.ntmps73
        go_wp2_with fail
        refine (HB.out _ (Below.refl _ _)).mono ?_
        rintro e w1 ⟨rfl, n, rfl⟩
        have c1 := HC.out _ (below_drawn n)
        rw [decide_eq_true hn] at c0 c1
        go_wp2_with fail
        refine (HB.out _ (below_drawn n)).mono ?_
        rintro e w2 ⟨rfl, n2, rfl⟩
        go_wp2
        go_ret
        first | exact ⟨by rw [HE.out]; rfl, _, rfl⟩ | exact ⟨by rw [HE.out]; simp <;> omega, _, rfl⟩
    · rw [decide_eq_false hn, Bool.false_and, Bool.false_and] at HE
      go_enter Try.func73, Try.ntmps73
      go_wp2_with fail
      refine (HB.out _ (Below.refl _ _)).mono ?_
      rintro e w1 ⟨rfl, n, rfl⟩
      have c1 := HC.out _ (below_drawn n)
      rw [decide_eq_false (show ¬ z < 0 by omega)] at c0 c1
      go_wp2
      go_ret
      first | exact ⟨by rw [HE.out]; rfl, _, rfl⟩ | exact ⟨by rw [HE.out]; simp <;> omega, _, rfl⟩
end Go.Proofs.Ytdjdnllnhonjkaa.Mv
