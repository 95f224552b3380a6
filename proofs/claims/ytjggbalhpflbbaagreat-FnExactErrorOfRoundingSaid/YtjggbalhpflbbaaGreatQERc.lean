/- Lemmas of the claim: Fq. -/
import Derived.Laws.FloatArith
import Derived.Test.YtjggbalhpflbbaaGreatQERb
section
set_option linter.unusedSimpArgs false
set_option linter.unusedVariables false
namespace Fp
open Ieee
theorem isN_word {f : Format} {m : Nat} {e : Int} (s : Bool) (c : Canon f m e) (h : rung f m e < f.infRung) : IsN f (f.word s (rung f m e)) s (V m e) :=
  ⟨m, e, read_word s c h, c, h, rfl, rfl⟩
theorem isN_eq {f : Format} (hK : -K ≤ f.leastPlace) {b : Nat} {s : Bool} {m : Nat} {e : Int} (h : IsN f b s (V m e)) (c : Canon f m e) : b = f.word s (rung f m e) := by
  obtain ⟨m', e', _, c', _, rfl, hv⟩ := h
  obtain ⟨rfl, rfl⟩ := canon_unique hK c' c hv
  rfl
theorem isN_lt {f : Format} {b : Nat} {s : Bool} {v : Nat} (h : IsN f b s v) : b < 2 ^ f.width := by
  obtain ⟨m, e, _, c, hr, rfl, _⟩ := h
  have := infRung_add f
  have := binade_pos f
  rw [two_pow_width]
  unfold Format.word
  split <;> omega
theorem isN_fin' {f : Format} {b : Nat} {s : Bool} {v : Nat} (h : IsN f b s v) : fin f b = true ∧ nan f b = false ∧ sg f b = s := by
  obtain ⟨m, e, _, c, hr, rfl, _⟩ := h
  have h1 := infRung_add f
  have h2 := binade_pos f
  have g := sg_word (f := f) (s := s) (r := rung f m e) (by omega)
  unfold fin nan
  rw [g.2]
  refine ⟨by simpa using hr, by simp; omega, g.1⟩
theorem nearest_canon {f : Format} (hK : -K ≤ f.leastPlace) (s : Bool) {mag m : Nat} {place e : Int} (c : Canon f m e) (hr : rung f m e < f.infRung) (hp : -K ≤ place) (hv : V mag place = V m e) :
    f.nearest s mag place = f.word s (rung f m e) := by
  by_cases hm : m = 0
  · subst hm
    rw [V_zero] at hv
    rw [V_eq_zero.1 hv, nearest_zero, canon_zero c]
  · exact nearest_exact s hm c (Nat.le_of_lt hr) hp (Int.le_trans hK c.le) hv
theorem mul_one32 {x : Nat} (hx : x < 4294967296) (h : nan single x = false) : single.mul x 3212836864 = some (single.word (!(sg single x)) (rg single x)) := by
  have hx' : x < 2 ^ single.width := by rw [wd32]; exact hx
  have hy : single.read 3212836864 = .number true 8388608 (-23) := by decide +kernel
  unfold Format.mul
  cases hf : fin single x with
  | true =>
    obtain ⟨m, e, hr, c, hrg, hn⟩ := isN_fin hf32 hx' hf
    rw [hr, hy]
    simp only [Datum.product, Option.map_some, Format.write]
    have hle := c.le
    rw [lp32] at hle
    have hlt : rung single m e < single.infRung := by unfold fin at hf; rw [hrg]; simpa using hf
    rw [nearest_canon hK32 _ c hlt (by unfold K; omega), hrg]
    · cases sg single x <;> rfl
    · have := V_shift m (e + -23) 23 (by unfold K; omega)
      rw [show e + -23 + ((23 : Nat) : Int) = e by omega] at this
      rw [this]
  | false =>
    obtain ⟨hr, hw⟩ := read_inf hf32 hx' hf h
    rw [hr, hy]
    have hrg : rg single x = single.infRung := by
      have := infRung_add single
      have := binade_pos single
      rw [hw]; exact (sg_word (by omega)).2
    rw [hrg]
    cases sg single x <;> rfl
theorem two64 : IsN double 4611686018427387904 false (V 1 1) := by
  refine ⟨4503599627370496, -51, by decide +kernel, ⟨by decide, by decide, by decide⟩, by decide +kernel, by decide +kernel, ?_⟩
  have := V_shift 1 (-51) 52 (by decide)
  rw [show (-51 : Int) + ((52 : Nat) : Int) = 1 by decide] at this
  rw [this]
theorem V_U (m : Nat) : V m 0 = m * U := by
  unfold V U
  rw [show (0 + K).toNat = kN from rfl]
theorem double_two {x : Nat} {s : Bool} {m : Nat} {e : Int} (hx : IsN double x s (V m e)) (he : -2000 ≤ e) (h : Rp double m (e + 1)) :
    ∃ r, double.mul x 4611686018427387904 = some r ∧ IsN double r s (V m (e + 1)) := by
  obtain ⟨r, h1, h2⟩ := mul_isN (by decide) hx two64 h (by rw [V_mul (by unfold K; omega) (by decide) (by unfold K; omega), Nat.mul_one])
  exact ⟨r, h1, by simpa using h2⟩
theorem halve_two {x : Nat} {s : Bool} {m : Nat} {e : Int} (hx : IsN double x s (V m e)) (he : -2000 ≤ e) (h : Rp double m (e - 1)) :
    ∃ r, double.div x 4611686018427387904 = some r ∧ IsN double r s (V m (e - 1)) := by
  obtain ⟨r, h1, h2⟩ := div_isN (f := double) (by decide) (by decide) hx (t := false) (q := 52) (j := -51) (y := 4611686018427387904) (by decide +kernel) (by decide) (by decide) (by decide) h
    (by rw [show e - 1 + -51 + ((52 : Nat) : Int) = e by omega]) (by unfold K; omega)
  exact ⟨r, h1, by simpa using h2⟩
theorem order64 {x y : Nat} {s t : Bool} {a b : Nat} (hx : IsN double x s a) (hy : IsN double y t b) : double.order x y = some (compare (sv s a) (sv t b)) := order_isN hK64 hx hy
theorem V_mono {m n : Nat} (e : Int) : V m e < V n e ↔ m < n := by
  unfold V
  have hp := Nat.two_pow_pos (e + K).toNat
  exact ⟨fun h => Nat.lt_of_mul_lt_mul_right h, fun h => Nat.mul_lt_mul_of_pos_right h hp⟩
open Go in
theorem widen {x : Nat} {s : Bool} {m : Nat} {e : Int} (c : Canon single m e) (hr : single.read x = .number s m e) (h : rung single m e < single.infRung) : ∃ r, floatToFloatBits .f32 x .f64 = some r ∧ IsN double r s (V m e) := by
  have h1 := c.lt
  have h2 := c.le
  rw [bi32] at h1
  rw [lp32] at h2
  have htop : e ≤ 104 := by
    unfold rung at h
    have h3 := c.full
    rw [lp32, bi32] at h3
    rw [lp32, bi32, ir32] at h
    omega
  have rp : Rp double m e := ⟨by rw [bi64]; omega, by rw [lp64]; omega, by rw [top64]; omega⟩
  have hn := isN_nearest hK64 s rp (by unfold K; omega) (rfl : V m e = V m e)
  refine ⟨double.nearest s m e, ?_, hn⟩
  unfold floatToFloatBits
  rw [if_neg (by decide)]
  have hd : FloatKind.f32.decode x = .number s m e := hr
  rw [hd]
  simp only
  obtain ⟨m', e', hr', _⟩ := hn
  have he : FloatKind.f64.encode (.number s m e) = double.nearest s m e := rfl
  have hdd : FloatKind.f64.decode (double.nearest s m e) = .number s m' e' := hr'
  rw [he, hdd]
  simp [Datum.isInfinity]
open Go in
theorem narrow {x : Nat} {s : Bool} {m : Nat} {e : Int} (hx : IsN double x s (V m e)) (rp : Rp single m e) : ∃ r, floatToFloatBits .f64 x .f32 = some r ∧ IsN single r s (V m e) := by
  obtain ⟨m1, e1, hr, c1, _, _, hv⟩ := hx
  have h2 := c1.le
  rw [lp64] at h2
  have hn := isN_nearest hK32 s rp (by unfold K; omega) hv
  refine ⟨single.nearest s m1 e1, ?_, hn⟩
  unfold floatToFloatBits
  rw [if_neg (by decide)]
  have hd : FloatKind.f64.decode x = .number s m1 e1 := hr
  rw [hd]
  simp only
  obtain ⟨m', e', hr', _⟩ := hn
  have he : FloatKind.f32.encode (.number s m1 e1) = single.nearest s m1 e1 := rfl
  have hdd : FloatKind.f32.decode (single.nearest s m1 e1) = .number s m' e' := hr'
  rw [he, hdd]
  simp [Datum.isInfinity]
open Go in
theorem toI64 {x : Nat} {s : Bool} {v : Nat} (hx : IsN double x s v) (h : v / U < 9223372036854775808) : floatToIntVal .f64 x .i64 = some (sv s (v / U)) := by
  unfold floatToIntVal
  have ht : (FloatKind.f64.decode x).toInt .zero = some (sv s (v / U)) := toInt_isN hK64 hx
  rw [ht]
  generalize v / U = q at *
  simp only
  rw [if_pos]
  have h1 : IntKind.min .i64 = -9223372036854775808 := by decide
  have h2 : IntKind.max .i64 = 9223372036854775807 := by decide
  rw [h1, h2]
  unfold sv
  split <;> omega
open Go in
theorem ofInt64 (n : Int) (h1 : -9007199254740992 < n) (h2 : n < 9007199254740992) : IsN double (floatOfInt .f64 n) (decide (n < 0)) (V n.natAbs 0) := by
  have rp : Rp double n.natAbs 0 := ⟨by rw [bi64]; omega, by rw [lp64]; omega, by rw [top64]; omega⟩
  have := isN_nearest hK64 (decide (n < 0)) rp (by unfold K; omega) (rfl : V n.natAbs 0 = V n.natAbs 0)
  exact this
end Fp
end
