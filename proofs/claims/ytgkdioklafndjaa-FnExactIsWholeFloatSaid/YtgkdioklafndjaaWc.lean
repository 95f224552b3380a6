/- Walks: the program's own words on floats: finite, minus, parts, place, the float at a place, classes. -/
import Derived.Test.YtgkdioklafndjaaWb
import Derived.Laws.BitsLemmas

set_option linter.unusedSimpArgs false

set_option linter.unusedVariables false
namespace Go.Proofs.Ytgkdioklafndjaa.Wc
open Go.RowKit Fp

theorem ret_int {k : IntKind} {a b : Int} (h : a = b) : Ending.returned (.int k a) = .returned (.int k b) := by rw [h]

theorem ret_bool {a b : Bool} (h : a = b) : Ending.returned (.bool a) = .returned (.bool b) := by rw [h]

theorem ret_float {k : FloatKind} {a b : Nat} (h : a = b) : Ending.returned (.float k a) = .returned (.float k b) := by rw [h]

theorem ret_ints {k k' : IntKind} {a b a' b' : Int} (h : a = b) (h' : a' = b') : Ending.returned (.tuple #[.int k a, .int k' a']) = .returned (.tuple #[.int k b, .int k' b']) := by rw [h, h']

theorem wraps_u32 (n : Int) (h₀ : 0 ≤ n) (h₁ : n < 2 ^ 32) : IntKind.u32.wrap n = n := by rw [IntKind.wrap_u32]; omega

theorem and255 (x : Nat) (h : x < 4294967296) : bits .and .u32 ((x : Int) / 8388608) 255 = ((x / 8388608 % 256 : Nat) : Int) := by
  have := bits_mask .u32 32 (by decide) wraps_u32 8 (by decide) ((x : Int) / 8388608) (by omega) (by omega)
  rw [show ((2 : Int) ^ 8 - 1) = 255 from rfl] at this
  rw [this]; omega

theorem andFr (x : Nat) (h : x < 4294967296) : bits .and .u32 (x : Int) 8388607 = ((x % 8388608 : Nat) : Int) := by
  have := bits_mask .u32 32 (by decide) wraps_u32 23 (by decide) (x : Int) (by omega) (by omega)
  rw [show ((2 : Int) ^ 23 - 1) = 8388607 from rfl] at this
  rw [this]; omega

theorem andRg (x : Nat) (h : x < 4294967296) : bits .and .u32 (x : Int) 2147483647 = ((x % 2147483648 : Nat) : Int) := by
  have := bits_mask .u32 32 (by decide) wraps_u32 31 (by decide) (x : Int) (by omega) (by omega)
  rw [show ((2 : Int) ^ 31 - 1) = 2147483647 from rfl] at this
  rw [this]; omega

theorem orSg (x : Nat) (h : x < 2147483648) : bits .or .u32 (x : Int) 2147483648 = ((2147483648 + x : Nat) : Int) := by
  have h1 := u32_or_nat x 2147483648 (by omega) (by omega)
  rw [show (2147483648 : Int) = ((2147483648 : Nat) : Int) from rfl, h1, Nat.or_comm, nat_join 31 2147483648 x (by omega) (by omega)]

@[go_sem] theorem bits32 (x : Nat) (w : World) : (callFunc 31 #[.float .f32 x]).run Try.prog w = .ok (.value (.int .u32 (x : Int))) w := by
  rw [run_callFunc_extern (e := Extern.MathFloatBits.float32bits) Try.func31 (by kernel_rfl) (by kernel_rfl) (by kernel_rfl) (by kernel_rfl)]
  rfl

@[go_sem] theorem from32 (n : Int) (w : World) : (callFunc 49 #[.int .u32 n]).run Try.prog w = .ok (.value (.float .f32 n.toNat)) w := by rw [run_callFunc_extern (e := Extern.MathFloatBits.float32frombits) Try.func49 (by kernel_rfl) (by kernel_rfl) (by kernel_rfl) (by kernel_rfl)]; rfl

theorem fin32 (x : Nat) (h : x < 4294967296) : fin Ieee.single x = (((x / 8388608 % 256 : Nat) : Int) != 255) := by
  unfold fin rg
  rw [sw32, ir32, Bool.eq_iff_iff]
  simp
  omega

theorem nan32 (x : Nat) (h : x < 4294967296) : nan Ieee.single x = (Ieee.single.order x x != some .eq) := by
  have hx : x < 2 ^ Ieee.single.width := by rw [wd32]; exact h
  cases hn : nan Ieee.single x with
  | true => rw [order_nan hf32 hx hx (.inl hn)]; rfl
  | false => rw [order_pl hK32 hf32 hx hx hn hn]; simp [compare_int]

theorem sg32 (x : Nat) (h : x < 4294967296) : sg Ieee.single x = (((x : Int) / 2147483648) != 0) := by
  unfold sg
  rw [sw32, Bool.eq_iff_iff]
  simp
  omega

set_option maxHeartbeats 400000 in
theorem isNaN (x : Nat) (hx : x < 4294967296) (w : World) : Calls Try.prog 30 #[.float .f32 x] w fun e w' => e = .returned (.bool (nan Ieee.single x)) ∧ w = w' :=
  (Wb.isNaN x w).mono fun e w' ⟨he, hw⟩ => ⟨by rw [nan32 x hx]; exact he, hw⟩

set_option maxHeartbeats 400000 in
theorem l01NaN (x : Nat) (hx : x < 4294967296) (w : World) : Calls Try.prog 27 #[.float .f32 x] w fun e w' => e = .returned (.bool (nan Ieee.single x)) ∧ w = w' :=
  (Wb.l01NaN x w).mono fun e w' ⟨he, hw⟩ => ⟨by rw [nan32 x hx]; exact he, hw⟩

set_option maxHeartbeats 400000 in
theorem isFinite (x : Nat) (hx : x < 4294967296) (w : World) : Calls Try.prog 34 #[.float .f32 x] w fun e w' => e = .returned (.bool (fin Ieee.single x)) ∧ w = w' := by
  go_enter Try.func34, Try.ntmps34
  go_wp2
  go_ret
  exact ⟨by rw [fin32 x hx, ← and255 x hx]; rfl, rfl⟩

set_option maxHeartbeats 400000 in
theorem minus (x : Nat) (hx : x < 4294967296) (w : World) : Calls Try.prog 41 #[.float .f32 x] w fun e w' => e = .returned (.bool (sg Ieee.single x)) ∧ w = w' := by
  go_enter Try.func41, Try.ntmps41
  go_wp2
  go_ret
  exact ⟨by rw [sg32 x hx]; rfl, rfl⟩

theorem rg_lt (x : Nat) : rg Ieee.single x < 2147483648 := by unfold rg; rw [sw32]; omega

theorem pl32 (x : Nat) : pl Ieee.single x = sv (sg Ieee.single x) (x % 2147483648) := by unfold pl rg; rw [sw32]

set_option maxHeartbeats 400000 in
theorem place (x : Nat) (hx : x < 4294967296) (w : World) : Calls Try.prog 32 #[.float .f32 x] w fun e w' => e = .returned (.int .i64 (pl Ieee.single x)) ∧ w = w' := by
  go_enter Try.func32, Try.ntmps32
  go_wp2_with (first | (go_at_call 41; refine (minus x hx _).mono ?_; rintro e w' ⟨rfl, rfl⟩))
  all_goals (go_ret; refine ⟨ret_int ?_, rfl⟩; rw [pl32, andRg x hx]; simp [*, sv]; unfold wrap64; omega)

/-- The word at a place. -/
def at32 (n : Int) : Nat := if n < 0 then 2147483648 + (-n).toNat else n.toNat

set_option maxHeartbeats 400000 in
theorem atPlace (n : Int) (h1 : -2139095040 ≤ n) (h2 : n ≤ 2139095040) (w : World) : Calls Try.prog 40 #[.int .i64 n] w fun e w' => e = .returned (.float .f32 (at32 n)) ∧ w = w' := by
  by_cases hn : n < 0
  · obtain ⟨m, rfl⟩ : ∃ m : Nat, n = -(m : Int) := ⟨(-n).toNat, by omega⟩
    have e1 := orSg m (by omega)
    have E1 := Lib.hid e1
    clear e1
    go_enter Try.func40, Try.ntmps40
    go_wp2
    go_ret
    refine ⟨ret_float ?_, rfl⟩
    rw [E1.out]
    unfold at32
    rw [if_pos hn]
    omega
  · go_enter Try.func40, Try.ntmps40
    go_wp2
    go_ret
    refine ⟨ret_float ?_, rfl⟩
    unfold at32
    rw [if_neg (by omega)]

/-- The significand and the place of the last digit of a finite word. -/
def mant (x : Nat) : Nat := if x / 8388608 % 256 = 0 then x % 8388608 else x % 8388608 + 8388608

def expo (x : Nat) : Int := if x / 8388608 % 256 = 0 then -149 else ((x / 8388608 % 256 : Nat) : Int) - 150

end Go.Proofs.Ytgkdioklafndjaa.Wc