/- Walks: sums, differences, products, shifts to the right. -/
import Derived.Test.YtdjdnllnhonjkaaMi
set_option linter.unusedVariables false
set_option linter.unusedSimpArgs false
namespace Go.Proofs.Ytdjdnllnhonjkaa.Mj
open Go.RowKit Go.Proofs.YtdjdnllnhonjkaaW.PrintWords Go.Proofs.Ytdjdnllnhonjkaa.PW Go.Proofs.Ytdjdnllnhonjkaa.Pc Go.Proofs.Ytdjdnllnhonjkaa.Ma Go.Proofs.Ytdjdnllnhonjkaa.Mb Go.Proofs.Ytdjdnllnhonjkaa.Mc Go.Proofs.Ytdjdnllnhonjkaa.Md Go.Proofs.Ytdjdnllnhonjkaa.Me Go.Proofs.Ytdjdnllnhonjkaa.Mi Dg
open Pm (sgn)

theorem Puts.of {w W w' : World} {p : Nat} {z : Int} {e : Ending} (hb : Below w.heap.size w W) (h : Puts W p z e w') : Puts w p z e w' := Mc.Puts.below hb h

set_option maxHeartbeats 1600000 in
theorem add {w : World} {p q s : Nat} {x y : Int} (hp : Blk w p) (hx : Z w q x) (hy : Z w s y) (h1 : bl x.natAbs ≤ 536870912) (h2 : bl y.natAbs ≤ 536870912) :
    Calls Try.prog 84 #[.pointer (some ⟨p, 0, none⟩), .pointer (some ⟨q, 0, none⟩), .pointer (some ⟨s, 0, none⟩)] w (Puts w p (x + y)) := by
  obtain ⟨B, d, j0, j1, hn, hs⟩ := Z.open hy
  have hP := fun (W : World) (hb : Below w.heap.size w W) => (plus (neg := decide (y < 0)) (hp.below hb) (hx.below hb) (hn.below hb) h1 h2).mono fun e w' h => Puts.of hb h
  rw [sv_abs] at hP
  have HP := Lib.hid hP
  clear hP hn h1 h2 hp hx hy
  generalize decide (y < 0) = b at *
  go_enter Try.func84, Try.ntmps84
  go_wp2
  go_region_with (go_at_call 122; refine (HP.out _ (by first | exact Below.refl _ _ | exact (Below.refl _ _).drew)).mono ?_; rintro e w2 ⟨rfl, hz2, hg2⟩; have HE := Lib.hid (show Puts w p (x + y) _ w2 from ⟨rfl, hz2, hg2⟩); clear hz2 hg2)
  all_goals go_wp2
  all_goals go_ret
  all_goals exact HE.out

set_option maxHeartbeats 1600000 in
theorem sub {w : World} {p q s : Nat} {x y : Int} (hp : Blk w p) (hx : Z w q x) (hy : Z w s y) (h1 : bl x.natAbs ≤ 536870912) (h2 : bl y.natAbs ≤ 536870912) :
    Calls Try.prog 86 #[.pointer (some ⟨p, 0, none⟩), .pointer (some ⟨q, 0, none⟩), .pointer (some ⟨s, 0, none⟩)] w (Puts w p (x - y)) := by
  obtain ⟨B, d, j0, j1, hn, hs⟩ := Z.open hy
  have hP := fun (W : World) (hb : Below w.heap.size w W) => (plus (neg := !decide (y < 0)) (hp.below hb) (hx.below hb) (hn.below hb) h1 h2).mono fun e w' h => Puts.of hb h
  rw [show sv (!decide (y < 0)) y.natAbs = -y from natAbs_neg_if y, ← Int.sub_eq_add_neg] at hP
  have HP := Lib.hid hP
  clear hP hn h1 h2 hp hx hy
  generalize decide (y < 0) = b at *
  go_enter Try.func86, Try.ntmps86
  go_wp2
  go_region_with (go_at_call 122; refine (HP.out _ (by first | exact Below.refl _ _ | exact (Below.refl _ _).drew)).mono ?_; rintro e w2 ⟨rfl, hz2, hg2⟩; have HE := Lib.hid (show Puts w p (x - y) _ w2 from ⟨rfl, hz2, hg2⟩); clear hz2 hg2)
  all_goals go_wp2
  all_goals go_ret
  all_goals exact HE.out

theorem mul_sign (x y : Int) : (if (decide (x < 0) != decide (y < 0)) = true then -((x.natAbs * y.natAbs : Nat) : Int) else ((x.natAbs * y.natAbs : Nat) : Int)) = x * y := by
  rw [Int.natCast_mul]
  by_cases hx : x < 0 <;> by_cases hy : y < 0
  · rw [show (x.natAbs : Int) = -x by omega, show (y.natAbs : Int) = -y by omega]; simp [hx, hy, Int.neg_mul_neg]
  · rw [show (x.natAbs : Int) = -x by omega, show (y.natAbs : Int) = y by omega]; simp [hx, hy, Int.neg_mul]
  · rw [show (x.natAbs : Int) = x by omega, show (y.natAbs : Int) = -y by omega]; simp [hx, hy, Int.mul_neg]
  · rw [show (x.natAbs : Int) = x by omega, show (y.natAbs : Int) = y by omega]; simp [hx, hy]

set_option maxHeartbeats 1600000 in
theorem mul {w : World} {p q s : Nat} {x y : Int} (hp : Blk w p) (hx : Z w q x) (hy : Z w s y) (h : bl x.natAbs + bl y.natAbs ≤ 536870912) (hpq : p ≠ q) (hps : p ≠ s) :
    Calls Try.prog 82 #[.pointer (some ⟨p, 0, none⟩), .pointer (some ⟨q, 0, none⟩), .pointer (some ⟨s, 0, none⟩)] w (Puts w p (x * y)) := by
  obtain ⟨A, c, k0, k1, hm, hq⟩ := Z.open hx
  obtain ⟨B, d, j0, j1, hn, hs⟩ := Z.open hy
  have hbl := bl_mul_le x.natAbs y.natAbs
  have hL := fun (W : World) (hb : Below w.heap.size w W) => (cMul (hm.below hb) (hn.below hb) (by omega)).mono fun e w' h => GivesMg.of hb h
  have hP := fun (w1 : World) (A' : Option Addr) (c' : Nat) h1 h2 => put_of (w1 := w1) (A := A') (c := c') (neg := decide (x < 0) != decide (y < 0)) (n := x.natAbs * y.natAbs) hp h1 h2 (by omega)
  rw [mul_sign] at hP
  have hK : ∀ w1, w.grownBy w1 (some p) → (w1.cell? ⟨q, 0, none⟩ = some (.bool (decide (x < 0))) ∧ w1.cell? ⟨q, 1, none⟩ = some (.slice A (D x.natAbs).length c) ∧ w1.cell? ⟨s, 0, none⟩ = some (.bool (decide (y < 0))) ∧ w1.cell? ⟨s, 1, none⟩ = some (.slice B (D y.natAbs).length d)) := fun w1 hg =>
    ⟨hg.cell k0 (by simp; omega), hg.cell k1 (by simp; omega), hg.cell j0 (by simp; omega), hg.cell j1 (by simp; omega)⟩
  have HL := Lib.hid hL
  have HP := Lib.hid hP
  have HK := Lib.hid hK
  clear hK hL hP h hbl hm hn hp hx hy hpq hps
  generalize hb1 : decide (x < 0) = b1 at *
  generalize hb2 : decide (y < 0) = b2 at *
  clear hb1 hb2
  go_enter Try.func82, Try.ntmps82
  go_wp2
  go_region_held3 (fun w' => w'.cell? ⟨q, 0, none⟩ = some (.bool b1) ∧ w'.cell? ⟨q, 1, none⟩ = some (.slice A (D x.natAbs).length c) ∧ w'.cell? ⟨s, 0, none⟩ = some (.bool b2) ∧ w'.cell? ⟨s, 1, none⟩ = some (.slice B (D y.natAbs).length d)) (go_keep)
    (first | (go_at_call 113; refine (HL.out _ (by first | exact Below.refl _ _ | exact (Below.refl _ _).drew)).mono ?_; rintro e w1 ⟨A', c', rfl, hm', hb'⟩; have HPM := Lib.hid (HP.out w1 A' c' hb' hm'); obtain ⟨a0, a1, a2, a3⟩ := HK.out w1 (grown_below hb' _); clear hm' hb') | (go_at_call 115; refine HPM.out.mono ?_; rintro e w2 ⟨rfl, hz2, hg2⟩; obtain ⟨b0, b3, b4, b5⟩ := HK.out w2 hg2; have HE := Lib.hid (show Puts w p (x * y) _ w2 from ⟨rfl, hz2, hg2⟩); clear hz2 hg2))
  all_goals go_wp2
  all_goals go_ret
  all_goals exact HE.out
end Go.Proofs.Ytdjdnllnhonjkaa.Mj
