/- Floats by their places: the words of a format without the sign bit, and their opposites, are ordered as the floats. Plain arithmetic over Ieee, no program. -/
import Derived.Test.YtgkdioklafndjaaFpo
set_option linter.unusedSimpArgs false
set_option linter.unusedVariables false
namespace Fp
open Ieee

def sg (f : Format) (x : Nat) : Bool := decide (f.signWeight ≤ x)
def rg (f : Format) (x : Nat) : Nat := x % f.signWeight
/-- The place. -/
def pl (f : Format) (x : Nat) : Int := sv (sg f x) (rg f x)
def nan (f : Format) (x : Nat) : Bool := decide (f.infRung < rg f x)
def fin (f : Format) (x : Nat) : Bool := decide (rg f x < f.infRung)

theorem sg_word {f : Format} {s : Bool} {r : Nat} (h : r < f.signWeight) : sg f (f.word s r) = s ∧ rg f (f.word s r) = r := by
  unfold sg rg
  refine ⟨?_, (word_div (s := s) h).2⟩
  cases s <;> simp [Format.word] <;> omega

theorem two_pow_width (f : Format) : 2 ^ f.width = 2 * f.signWeight := by
  unfold Format.width Format.signWeight
  rw [Nat.add_assoc, Nat.add_comm 1, Nat.pow_succ, Nat.mul_comm]

theorem rung_lt_iff {f : Format} (hK : -K ≤ f.leastPlace) {m m' : Nat} {e e' : Int} (c : Canon f m e) (c' : Canon f m' e') :
    (V m e < V m' e' ↔ rung f m e < rung f m' e') ∧ (V m e = V m' e' ↔ rung f m e = rung f m' e') := by
  have hb := binade_pos f
  have key : ∀ {m m' : Nat} {e e' : Int}, Canon f m e → Canon f m' e' → e < e' → V m e < V m' e' ∧ rung f m e < rung f m' e' := by
    intro m m' e e' c c' hlt
    have h1 := c.lt
    have h2 := c.le
    have h3 : f.binade ≤ m' := by
      rcases c'.full with h | h
      · omega
      · exact h
    constructor
    · obtain ⟨k, hk⟩ : ∃ k : Nat, e' = e + ((k + 1 : Nat) : Int) := ⟨(e' - e - 1).toNat, by omega⟩
      rw [hk, V_shift m' e (k + 1) (by omega)]
      unfold V
      apply Nat.mul_lt_mul_of_pos_right _ (Nat.two_pow_pos _)
      have : 2 * f.binade ≤ m' * 2 ^ (k + 1) := by
        rw [Nat.pow_succ, Nat.mul_comm 2, ← Nat.mul_assoc]
        have hp := Nat.two_pow_pos k
        exact Nat.mul_le_mul_right 2 (Nat.le_trans h3 (Nat.le_mul_of_pos_right _ hp))
      omega
    · unfold rung
      obtain ⟨a, ha⟩ : ∃ a : Nat, (e - f.leastPlace).toNat = a := ⟨_, rfl⟩
      obtain ⟨b, hb'⟩ : ∃ b : Nat, (e' - f.leastPlace).toNat = a + 1 + b := ⟨(e' - f.leastPlace).toNat - (a + 1), by omega⟩
      rw [ha, hb', Nat.add_mul, Nat.add_mul]
      omega
  rcases Int.lt_trichotomy e e' with h | h | h
  · obtain ⟨h1, h2⟩ := key c c' h
    constructor <;> constructor <;> intro <;> omega
  · subst h
    have hV : ∀ a b : Nat, (V a e < V b e ↔ a < b) ∧ (V a e = V b e ↔ a = b) := by
      intro a b
      unfold V
      have hp := Nat.two_pow_pos (e + K).toNat
      refine ⟨⟨fun h => Nat.lt_of_mul_lt_mul_right h, fun h => Nat.mul_lt_mul_of_pos_right h hp⟩, ⟨fun h => Nat.eq_of_mul_eq_mul_right hp h, fun h => by rw [h]⟩⟩
    rw [(hV m m').1, (hV m m').2]
    unfold rung
    constructor <;> constructor <;> intro <;> omega
  · obtain ⟨h1, h2⟩ := key c' c h
    constructor <;> constructor <;> intro <;> omega

theorem rung_zero_iff {f : Format} {m : Nat} {e : Int} (c : Canon f m e) : rung f m e = 0 ↔ V m e = 0 := by
  have hb := binade_pos f
  rw [V_eq_zero]
  unfold rung
  constructor
  · intro h; omega
  · rintro rfl
    have := canon_zero c
    subst this
    simp

theorem compare_eq_of {a b c d : Int} (h1 : a < b ↔ c < d) (h2 : a = b ↔ c = d) : compare a b = compare c d := by
  rw [compare_int, compare_int]
  simp only [h1, h2]

/-- THE ORDER OF FLOATS IS THAT OF THEIR PLACES. -/
theorem order_pl {f : Format} (hK : -K ≤ f.leastPlace) (hf : f.binade ≤ f.infRung) {x y : Nat} (hx : x < 2 ^ f.width) (hy : y < 2 ^ f.width) (nx : nan f x = false) (ny : nan f y = false) :
    f.order x y = some (compare (pl f x) (pl f y)) := by
  have hs := infRung_add f
  have hb := binade_pos f
  rcases read_cases hf hx with ⟨s, m, e, hr, c, hlt, rfl⟩ | ⟨s, hr, rfl⟩ | ⟨s, t, hr, ht0, ht, rfl⟩
  · have gx := sg_word (f := f) (s := s) (r := rung f m e) (by omega)
    rcases read_cases hf hy with ⟨s', m', e', hr', c', hlt', rfl⟩ | ⟨s', hr', rfl⟩ | ⟨s', t', hr', ht0', ht', rfl⟩
    · have gy := sg_word (f := f) (s := s') (r := rung f m' e') (by omega)
      rw [order_isN hK ⟨m, e, hr, c, hlt, rfl, rfl⟩ ⟨m', e', hr', c', hlt', rfl, rfl⟩]
      congr 1
      unfold pl
      rw [gx.1, gx.2, gy.1, gy.2]
      have h := rung_lt_iff hK c c'
      have h' := rung_lt_iff hK c' c
      have z := rung_zero_iff c
      have z' := rung_zero_iff c'
      apply compare_eq_of
      · cases s <;> cases s' <;> simp only [sv] <;> simp <;> omega
      · cases s <;> cases s' <;> simp only [sv] <;> simp <;> omega
    · have gy := sg_word (f := f) (s := s') (r := f.infRung) (by omega)
      unfold Format.order Datum.order
      rw [hr, hr']
      simp only
      unfold pl
      rw [gx.1, gx.2, gy.1, gy.2, compare_int]
      cases s <;> cases s' <;> simp only [sv, if_true, if_false, Bool.false_eq_true, Bool.not_true, Bool.not_false] <;> first | (rw [if_pos (by omega)]; done) | (rw [if_neg (by omega), if_neg (by omega)]; done)
    · have gy := sg_word (f := f) (s := s') (r := f.infRung + t') (by omega)
      unfold nan at ny
      rw [gy.2] at ny
      simp at ny
      omega
  · have gx := sg_word (f := f) (s := s) (r := f.infRung) (by omega)
    rcases read_cases hf hy with ⟨s', m', e', hr', c', hlt', rfl⟩ | ⟨s', hr', rfl⟩ | ⟨s', t', hr', ht0', ht', rfl⟩
    · have gy := sg_word (f := f) (s := s') (r := rung f m' e') (by omega)
      unfold Format.order Datum.order
      rw [hr, hr']
      simp only
      unfold pl
      rw [gx.1, gx.2, gy.1, gy.2, compare_int]
      cases s <;> cases s' <;> simp only [sv, if_true, if_false, Bool.false_eq_true, Bool.not_true, Bool.not_false] <;> first | (rw [if_pos (by omega)]; done) | (rw [if_neg (by omega), if_neg (by omega)]; done)
    · have gy := sg_word (f := f) (s := s') (r := f.infRung) (by omega)
      unfold Format.order Datum.order
      rw [hr, hr']
      simp only
      unfold pl
      rw [gx.1, gx.2, gy.1, gy.2, compare_int]
      have : 0 < f.infRung := by omega
      cases s <;> cases s' <;> simp only [sv, if_true, if_false, Bool.false_eq_true, Bool.not_true, Bool.not_false, Bool.toNat_true, Bool.toNat_false] <;> first | (rw [if_pos (by omega)]; done) | (rw [if_neg (by omega), if_neg (by omega)]; rfl) | (rw [if_pos (by omega)]; rfl) | (rw [if_neg (by omega), if_pos rfl]; done) | (simp; done) | (simp; rfl)
    · have gy := sg_word (f := f) (s := s') (r := f.infRung + t') (by omega)
      unfold nan at ny
      rw [gy.2] at ny
      simp at ny
      omega
  · have gx := sg_word (f := f) (s := s) (r := f.infRung + t) (by omega)
    unfold nan at nx
    rw [gx.2] at nx
    simp at nx
    omega

theorem read_nan {f : Format} (hf : f.binade ≤ f.infRung) {x : Nat} (hx : x < 2 ^ f.width) (n : nan f x = true) : ∃ s t, f.read x = .nan s t := by
  have hs := infRung_add f
  have hb := binade_pos f
  rcases read_cases hf hx with ⟨s, m, e, hr, c, hlt, rfl⟩ | ⟨s, hr, rfl⟩ | ⟨s, t, hr, ht0, ht, rfl⟩
  · have gx := sg_word (f := f) (s := s) (r := rung f m e) (by omega)
    unfold nan at n
    rw [gx.2] at n
    simp at n
    omega
  · have gx := sg_word (f := f) (s := s) (r := f.infRung) (by omega)
    unfold nan at n
    rw [gx.2] at n
    simp at n
  · exact ⟨s, t, hr⟩

theorem order_nan {f : Format} (hf : f.binade ≤ f.infRung) {x y : Nat} (hx : x < 2 ^ f.width) (hy : y < 2 ^ f.width) (n : nan f x = true ∨ nan f y = true) : f.order x y = none := by
  unfold Format.order
  rcases n with n | n
  · obtain ⟨s, t, h⟩ := read_nan hf hx n
    rw [h]
    rfl
  · obtain ⟨s, t, h⟩ := read_nan hf hy n
    rw [h]
    cases f.read x <;> rfl

/-- A finite word is a number. -/
theorem isN_fin {f : Format} (hf : f.binade ≤ f.infRung) {x : Nat} (hx : x < 2 ^ f.width) (n : fin f x = true) : ∃ m e, f.read x = .number (sg f x) m e ∧ Canon f m e ∧ rung f m e = rg f x ∧ IsN f x (sg f x) (V m e) := by
  have hs := infRung_add f
  have hb := binade_pos f
  unfold fin at n
  simp only [decide_eq_true_eq] at n
  rcases read_cases hf hx with ⟨s, m, e, hr, c, hlt, rfl⟩ | ⟨s, hr, rfl⟩ | ⟨s, t, hr, ht0, ht, rfl⟩
  · have gx := sg_word (f := f) (s := s) (r := rung f m e) (by omega)
    refine ⟨m, e, ?_, c, gx.2.symm, m, e, ?_, c, hlt, ?_, rfl⟩
    · rw [gx.1]; exact hr
    · rw [gx.1]; exact hr
    · rw [gx.1]
  · have gx := sg_word (f := f) (s := s) (r := f.infRung) (by omega)
    rw [gx.2] at n
    omega
  · have gx := sg_word (f := f) (s := s) (r := f.infRung + t) (by omega)
    rw [gx.2] at n
    omega

/-- An infinite word. -/
theorem read_inf {f : Format} (hf : f.binade ≤ f.infRung) {x : Nat} (hx : x < 2 ^ f.width) (n : fin f x = false) (n' : nan f x = false) : f.read x = .infinity (sg f x) ∧ x = f.word (sg f x) f.infRung := by
  have hs := infRung_add f
  have hb := binade_pos f
  unfold fin at n
  unfold nan at n'
  simp only [decide_eq_false_iff_not] at n n'
  rcases read_cases hf hx with ⟨s, m, e, hr, c, hlt, rfl⟩ | ⟨s, hr, rfl⟩ | ⟨s, t, hr, ht0, ht, rfl⟩
  · have gx := sg_word (f := f) (s := s) (r := rung f m e) (by omega)
    rw [gx.2] at n
    omega
  · have gx := sg_word (f := f) (s := s) (r := f.infRung) (by omega)
    rw [gx.1]
    exact ⟨hr, rfl⟩
  · have gx := sg_word (f := f) (s := s) (r := f.infRung + t) (by omega)
    rw [gx.2] at n'
    omega

/-! The two formats. -/
theorem lp32 : single.leastPlace = -149 := by decide
theorem lp64 : double.leastPlace = -1074 := by decide
theorem bi32 : single.binade = 8388608 := by decide
theorem bi64 : double.binade = 4503599627370496 := by decide
theorem ir32 : single.infRung = 2139095040 := by decide
theorem ir64 : double.infRung = 9218868437227405312 := by decide
theorem sw32 : single.signWeight = 2147483648 := by decide
theorem sw64 : double.signWeight = 9223372036854775808 := by decide
theorem wd32 : 2 ^ single.width = 4294967296 := by decide
theorem wd64 : 2 ^ double.width = 18446744073709551616 := by decide
theorem top32 : top single = 104 := by decide
theorem top64 : top double = 971 := by decide
theorem hK32 : -K ≤ single.leastPlace := by decide
theorem hK64 : -K ≤ double.leastPlace := by decide
theorem hf32 : single.binade ≤ single.infRung := by decide
theorem hf64 : double.binade ≤ double.infRung := by decide

end Fp
