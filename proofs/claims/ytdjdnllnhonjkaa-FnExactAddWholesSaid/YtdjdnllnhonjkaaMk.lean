/- Walks: the lowest bits; shifts to the right. -/
import Derived.Test.YtdjdnllnhonjkaaMj
set_option linter.unusedVariables false
set_option linter.unusedSimpArgs false
namespace Go.Proofs.Ytdjdnllnhonjkaa.Mk
open Go.RowKit Go.Proofs.YtdjdnllnhonjkaaW.PrintWords Go.Proofs.Ytdjdnllnhonjkaa.PW Go.Proofs.Ytdjdnllnhonjkaa.Pc Go.Proofs.Ytdjdnllnhonjkaa.Ma Go.Proofs.Ytdjdnllnhonjkaa.Mb Go.Proofs.Ytdjdnllnhonjkaa.Mc Go.Proofs.Ytdjdnllnhonjkaa.Md Go.Proofs.Ytdjdnllnhonjkaa.Me Go.Proofs.Ytdjdnllnhonjkaa.Mi Go.Proofs.Ytdjdnllnhonjkaa.Mj Dg
open Pm (sgn)

/-- The lowest 64 bits from digit k on. -/
def lw (n k : Nat) : Int := val 4294967296 (((D n).take 2).drop k)

theorem lw_zero (n : Nat) : lw n 0 = ((n % 18446744073709551616 : Nat) : Int) := by
  unfold lw
  rw [List.drop_zero]
  have := (val_div_mod (by decide) (D_dig n) 2).2
  rw [D_val] at this
  rw [← this]
  rfl
theorem lw_end (n k : Nat) (h : 2 ≤ k ∨ (D n).length ≤ k) : lw n k = 0 := by
  unfold lw
  rw [List.drop_of_length_le (by simp; omega)]
  rfl
theorem lw_bd (n k : Nat) (h : 0 < k) : 0 ≤ lw n k ∧ lw n k < 4294967296 := by
  unfold lw
  have hd := ((D_dig n).take 2).drop k
  have h1 := val_nonneg hd
  have h2 := val_lt (by decide) hd
  refine ⟨h1, ?_⟩
  have h3 : (((D n).take 2).drop k).length ≤ 1 := by simp; omega
  have h4 : ((4294967296 : Nat) : Int) ^ (((D n).take 2).drop k).length ≤ 4294967296 := by
    rcases Nat.lt_or_ge (((D n).take 2).drop k).length 1 with h | h
    · have : (((D n).take 2).drop k).length = 0 := by omega
      rw [this]; decide
    · have : (((D n).take 2).drop k).length = 1 := by omega
      rw [this]; decide
  omega
theorem lw_step (n k : Nat) (h : k < 2) (hk : k < (D n).length) : bits .or .u64 (IntKind.u64.wrap (lw n (k + 1) * 4294967296)) ((D n).getD k 0) = lw n k := by
  have hb := lw_bd n (k + 1) (by omega)
  have hd := (D_dig n).all0 (by decide) k
  have e : lw n k = (D n).getD k 0 + 4294967296 * lw n (k + 1) := by
    unfold lw
    have := val_drop' (B := 4294967296) ((D n).take 2) k
    rw [this]
    congr 1
    simp [List.getD, List.getElem?_take, h]
  rw [Pn.u64_id (by omega) (by omega), e]
  have := Po.or_high (x := (D n).getD k 0) (y := lw n (k + 1)) hd.1 (by omega) hb.1 hb.2
  rw [← this]
  obtain ⟨a, ha⟩ := Int.eq_ofNat_of_zero_le hd.1
  obtain ⟨b, hb'⟩ := Int.eq_ofNat_of_zero_le hb.1
  have hd2 : a < 4294967296 := by have := hd.2; omega
  have hb2 : b < 4294967296 := by have := hb.2; omega
  rw [ha, hb']
  have e2 : (b : Int) * 4294967296 = ((b * 4294967296 : Nat) : Int) := by simp
  have h1 : a < 2 ^ 64 := by omega
  have h2 : b * 4294967296 < 2 ^ 64 := by omega
  rw [e2, (bits_nat .u64 64 (by decide) Po.wraps_u64 _ _ h2 h1).2, (bits_nat .u64 64 (by decide) Po.wraps_u64 _ _ h1 h2).2, Nat.or_comm]

set_option maxHeartbeats 1600000 in
theorem low {w : World} {q : Nat} {z : Int} (hz : Z w q z) : Calls Try.prog 111 #[.pointer (some ⟨q, 0, none⟩)] w fun e w' => e = .returned (.int .u64 ((z.natAbs % 18446744073709551616 : Nat) : Int)) ∧ w = w' := by
  obtain ⟨A, c, k0, k1, hm, hq⟩ := Z.open hz
  have hres := lw_zero z.natAbs
  have hcell : ∀ k, k < (D z.natAbs).length → ∃ ad, A = some ad ∧ w.cell? (ad.add k) = some (.int .u32 ((D z.natAbs).getD k 0)) := fun k hk => by
    obtain ⟨ad, hA, hc⟩ := Kd.at_int hm.1 (k : Int) (by omega) (by omega)
    rw [Int.toNat_natCast, rdN] at hc
    exact ⟨ad, hA, hc⟩
  have hmax : (D z.natAbs).length ≤ 9223372036854775807 := hm.1.2.1
  have hst := fun k h1 h2 => lw_step z.natAbs k h1 h2
  have hen := fun k h => lw_end z.natAbs k h
  have hdd := (D_dig z.natAbs).all0 (by decide)
  have hlb := fun k h => lw_bd z.natAbs k h
  have HR := Lib.hid hres
  have HC := Lib.hid hcell
  have HS := Lib.hid hst
  have HE := Lib.hid hen
  have HD := Lib.hid hdd
  have HLB := Lib.hid hlb
  clear hres hcell hm hz hst hen hdd hlb
  generalize hln : (D z.natAbs).length = n at *
  clear hln
  obtain ⟨m, hm2, hmn, hmm⟩ : ∃ m : Nat, m ≤ 2 ∧ m ≤ n ∧ (2 ≤ m ∨ n ≤ m) := ⟨min n 2, by omega, by omega, by omega⟩
  have hst0 : lw z.natAbs m = 0 := HE.out m hmm
  have HST := Lib.hid hst0
  clear hst0
  by_cases hlt : n < 2
  · obtain rfl : n = m := by omega
    go_enter Try.func111, Try.ntmps111
    go_wp2_with fail
    go_loop [3, 4] (fun u i => ∃ k : Nat, k ≤ n ∧ i = .int .i64 ((k : Int) - 1) ∧ u = .int .u64 (lw z.natAbs k)) (fun _ i => (intOf i + 1).toNat)
    case atStart => exact ⟨n, Nat.le_refl _, rfl, by rw [HST.out]⟩
    case round =>
      obtain ⟨k, hk, rfl, rfl⟩ := hrel
      cases k with
      | zero =>
        have e : ((0 : Nat) : Int) - 1 = -1 := rfl
        rw [e]
        go_wp2
        go_ret
        exact ⟨by show Ending.returned (Value.int .u64 (lw z.natAbs 0)) = _; rw [HR.out]; simp, rfl⟩
      | succ k =>
        have e : ((k + 1 : Nat) : Int) - 1 = (k : Int) := by omega
        rw [e]
        clear e
        obtain ⟨ad, hA, hc⟩ := HC.out k (by omega)
        subst hA
        have hs := Lib.hid (HS.out k (by omega) (by omega))
        have hd := HD.out k
        have hb := HLB.out (k + 1) (by omega)
        have hx := Pn.u64_id (n := lw z.natAbs (k + 1) * 4294967296) (by omega) (by omega)
        have hs2 := hs.out
        rw [hx] at hs2
        have HS2 := Lib.hid hs2
        clear hs hs2 hx
        generalize hl1 : lw z.natAbs (k + 1) = l1 at *
        generalize hd1 : (D z.natAbs).getD k 0 = d1 at *
        clear hl1 hd1
        go_wp2
        go_round
        case rel => exact ⟨k, by omega, rfl, by rw [HS2.out]⟩
        case measure => (simp [intOf]) <;> omega
  · obtain rfl : m = 2 := by omega
    by_cases hn2 : n = 2
    · subst hn2
      go_enter Try.func111, Try.ntmps111
      go_wp2_with fail
      go_loop [3, 4] (fun u i => ∃ k : Nat, k ≤ 2 ∧ i = .int .i64 ((k : Int) - 1) ∧ u = .int .u64 (lw z.natAbs k)) (fun _ i => (intOf i + 1).toNat)
      case atStart => exact ⟨2, Nat.le_refl _, rfl, by rw [HST.out]⟩
      case round =>
        obtain ⟨k, hk, rfl, rfl⟩ := hrel
        cases k with
        | zero =>
          have e : ((0 : Nat) : Int) - 1 = -1 := rfl
          rw [e]
          go_wp2
          go_ret
          exact ⟨by show Ending.returned (Value.int .u64 (lw z.natAbs 0)) = _; rw [HR.out]; simp, rfl⟩
        | succ k =>
          have e : ((k + 1 : Nat) : Int) - 1 = (k : Int) := by omega
          rw [e]
          clear e
          obtain ⟨ad, hA, hc⟩ := HC.out k (by omega)
          subst hA
          have hs := Lib.hid (HS.out k (by omega) (by omega))
          have hd := HD.out k
          have hb := HLB.out (k + 1) (by omega)
          have hx := Pn.u64_id (n := lw z.natAbs (k + 1) * 4294967296) (by omega) (by omega)
          have hs2 := hs.out
          rw [hx] at hs2
          have HS2 := Lib.hid hs2
          clear hs hs2 hx
          generalize hl1 : lw z.natAbs (k + 1) = l1 at *
          generalize hd1 : (D z.natAbs).getD k 0 = d1 at *
          clear hl1 hd1
          go_wp2
          go_round
          case rel => exact ⟨k, by omega, rfl, by rw [HS2.out]⟩
          case measure => (simp [intOf]) <;> omega

    · have hn3 : 2 < n := by omega
      clear hlt
      go_enter Try.func111, Try.ntmps111
      go_wp2_with fail
      go_loop [3, 4] (fun u i => ∃ k : Nat, k ≤ 2 ∧ i = .int .i64 ((k : Int) - 1) ∧ u = .int .u64 (lw z.natAbs k)) (fun _ i => (intOf i + 1).toNat)
      case atStart => exact ⟨2, Nat.le_refl _, rfl, by rw [HST.out]⟩
      case round =>
        obtain ⟨k, hk, rfl, rfl⟩ := hrel
        cases k with
        | zero =>
          have e : ((0 : Nat) : Int) - 1 = -1 := rfl
          rw [e]
          go_wp2
          go_ret
          exact ⟨by show Ending.returned (Value.int .u64 (lw z.natAbs 0)) = _; rw [HR.out]; simp, rfl⟩
        | succ k =>
          have e : ((k + 1 : Nat) : Int) - 1 = (k : Int) := by omega
          rw [e]
          clear e
          obtain ⟨ad, hA, hc⟩ := HC.out k (by omega)
          subst hA
          have hs := Lib.hid (HS.out k (by omega) (by omega))
          have hd := HD.out k
          have hb := HLB.out (k + 1) (by omega)
          have hx := Pn.u64_id (n := lw z.natAbs (k + 1) * 4294967296) (by omega) (by omega)
          have hs2 := hs.out
          rw [hx] at hs2
          have HS2 := Lib.hid hs2
          clear hs hs2 hx
          generalize hl1 : lw z.natAbs (k + 1) = l1 at *
          generalize hd1 : (D z.natAbs).getD k 0 = d1 at *
          clear hl1 hd1
          go_wp2
          go_round
          case rel => exact ⟨k, by omega, rfl, by rw [HS2.out]⟩
          case measure => (simp [intOf]) <;> omega


theorem natAbs_mod {z : Int} (h0 : -9223372036854775808 ≤ z) (h1 : z ≤ 9223372036854775807) : ((z.natAbs % 18446744073709551616 : Nat) : Int) = z.natAbs := by omega

set_option maxHeartbeats 800000 in
theorem int64 {w : World} {q : Nat} {z : Int} (hz : Z w q z) (h0 : -9223372036854775808 ≤ z) (h1 : z ≤ 9223372036854775807) : Calls Try.prog 74 #[.pointer (some ⟨q, 0, none⟩)] w fun e w' => e = .returned (.int .i64 z) ∧ w = w' := by
  obtain ⟨A, c, k0, k1, hm, hq⟩ := Z.open hz
  have hl := low hz
  rw [natAbs_mod h0 h1] at hl
  have HL := Lib.hid hl
  clear hl hm hz
  by_cases hn : z < 0
  · have e : IntKind.i64.wrap (-(IntKind.i64.wrap (z.natAbs : Int))) = z := by rw [IntKind.wrap_i64, IntKind.wrap_i64]; omega
    have e2 : wrap64 (-(wrap64 (z.natAbs : Int))) = z := by unfold wrap64; omega
    rw [show decide (z < 0) = true by simpa using hn] at k0
    have E := Lib.hid e2
    clear e e2 h0 h1 hn
    generalize (z.natAbs : Int) = a at *
    go_enter Try.func74, Try.ntmps74
    go_wp2_with fail
    refine HL.out.mono ?_
    rintro e w1 ⟨rfl, rfl⟩
    go_wp2
    go_ret
    exact ⟨by rw [← E.out]; rfl, rfl⟩
  · have e2 : wrap64 (z.natAbs : Int) = z := by unfold wrap64; omega
    rw [show decide (z < 0) = false by simpa using hn] at k0
    have E := Lib.hid e2
    clear e2 h0 h1 hn
    generalize (z.natAbs : Int) = a at *
    go_enter Try.func74, Try.ntmps74
    go_wp2_with fail
    refine HL.out.mono ?_
    rintro e w1 ⟨rfl, rfl⟩
    go_wp2
    go_ret
    exact ⟨by rw [← E.out]; rfl, rfl⟩

theorem D_one : D 1 = [1] := by
  have := D_of (l := [1]) (Dig.cons (by decide) (by decide) Dig.nil) (by intro _ h; simp at h)
  exact this

theorem Mg_one {w : World} : Mg (w.alloc (.cells #[.int .u32 1] 107)) (some ⟨w.heap.size, 0, none⟩) 1 (D 1) := by
  rw [D_one]
  exact Mg.row (xs := [1]) (heap_alloc_new w _) rfl (by simp)

/-- Shifted to the right, rounded down. -/
theorem shr_neg {z : Int} (hz : z < 0) (n : Nat) : -(((z.natAbs - 1) / 2 ^ n + 1 : Nat) : Int) = z / 2 ^ n := by
  obtain ⟨m, hm⟩ : ∃ m : Nat, z = Int.negSucc m := ⟨z.natAbs - 1, by omega⟩
  subst hm
  have e : ((2 : Int) ^ n) = ((2 ^ n : Nat) : Int) := by simp
  rw [Int.negSucc_ediv _ (by rw [e]; have := Nat.two_pow_pos n; omega), e]
  show -(((m + 1 - 1) / 2 ^ n + 1 : Nat) : Int) = _
  rw [Nat.add_sub_cancel]
  rfl
theorem shr_pos {z : Int} (hz : ¬ z < 0) (n : Nat) : ((z.natAbs / 2 ^ n : Nat) : Int) = z / 2 ^ n := by
  have e : ((2 : Int) ^ n) = ((2 ^ n : Nat) : Int) := by simp
  obtain ⟨m, rfl⟩ := Int.eq_ofNat_of_zero_le (show 0 ≤ z by omega)
  rw [e, Int.natAbs_natCast]
  rfl

set_option maxHeartbeats 1600000 in
theorem rsh {w : World} {p q : Nat} {z : Int} {n : Nat} (hp : Blk w p) (hz : Z w q z) (h1 : bl z.natAbs ≤ 268435456) (h2 : n ≤ 268435456) :
    Calls Try.prog 127 #[.pointer (some ⟨p, 0, none⟩), .pointer (some ⟨q, 0, none⟩), .int .u64 n] w (Puts w p (z / 2 ^ n)) := by
  obtain ⟨A, c, k0, k1, hm, hq⟩ := Z.open hz
  by_cases hn : z < 0
  · have b1 := bl_mono (Nat.sub_le z.natAbs 1)
    have b2 := bl_mono (Nat.div_le_self (z.natAbs - 1) (2 ^ n))
    have b3 := bl_add_le ((z.natAbs - 1) / 2 ^ n) 1
    have b4 : bl 1 = 1 := rfl
    have hS := fun (W : World) (hb : Below w.heap.size w W) => (cSub ((hm.below hb).below (below_alloc W _)) (Mg_one (w := W)) (by omega) (by omega)).mono fun e w' h => GivesMg.of (below_then hb (below_alloc W _)) h
    have hR := fun (W : World) (A' : Option Addr) (c' : Nat) (hb : Below w.heap.size w W) (hm' : Mg W A' c' (D (z.natAbs - 1))) => (cRight hm' (n := n) (by omega) (by omega)).mono fun e w' h => GivesMg.of hb h
    have hA := fun (W : World) (A' : Option Addr) (c' : Nat) (hb : Below w.heap.size w W) (hm' : Mg W A' c' (D ((z.natAbs - 1) / 2 ^ n))) => (cAdd (hm'.below (below_alloc W _)) (Mg_one (w := W)) (by omega) (by omega)).mono fun e w' h => GivesMg.of (below_then hb (below_alloc W _)) h
    have hP := fun (w1 : World) (A' : Option Addr) (c' : Nat) h1 h2 => put_of (w1 := w1) (A := A') (c := c') (neg := true) (n := (z.natAbs - 1) / 2 ^ n + 1) hp h1 h2 (by omega)
    simp only [if_true] at hP
    rw [shr_neg hn] at hP
    rw [show decide (z < 0) = true by simpa using hn] at k0
    have l1 : (D 1).length = 1 := by rw [D_one]; rfl
    rw [l1] at hS hA
    have HS := Lib.hid hS
    have HR := Lib.hid hR
    have HA := Lib.hid hA
    have HP := Lib.hid hP
    clear hS hR hA hP b1 b2 b3 b4 h1 h2 hm hp hz hn l1
    go_enter Try.func127, Try.ntmps127
    go_wp2_with fail
    refine (HS.out _ (Below.refl _ _)).mono ?_
    rintro e w1 ⟨A1, c1, rfl, hm1, hb1⟩
    have HR1 := Lib.hid (HR.out w1 A1 c1 hb1 hm1)
    clear hm1 hb1
    go_wp2_with fail
    refine HR1.out.mono ?_
    rintro e w2 ⟨A2, c2, rfl, hm2, hb2⟩
    have HA1 := Lib.hid (HA.out w2 A2 c2 hb2 hm2)
    clear hm2 hb2
    go_wp2_with fail
    refine HA1.out.mono ?_
    rintro e w3 ⟨A3, c3, rfl, hm3, hb3⟩
    have HP1 := Lib.hid (HP.out w3 A3 c3 hb3 hm3)
    clear hm3 hb3
    go_wp2_with fail
    refine HP1.out.mono ?_
    rintro e w4 ⟨rfl, hz2, hg2⟩
    have HE := Lib.hid (show Puts w p (z / 2 ^ n) _ w4 from ⟨rfl, hz2, hg2⟩)
    clear hz2 hg2
    go_wp2
    go_ret
    exact HE.out
  · have b2 := bl_mono (Nat.div_le_self z.natAbs (2 ^ n))
    have hR := fun (W : World) (hb : Below w.heap.size w W) => (cRight (hm.below hb) (n := n) (by omega) (by omega)).mono fun e w' h => GivesMg.of hb h
    have hP := fun (w1 : World) (A' : Option Addr) (c' : Nat) h1 h2 => put_of (w1 := w1) (A := A') (c := c') (neg := false) (n := z.natAbs / 2 ^ n) hp h1 h2 (by omega)
    simp only [Bool.false_eq_true, if_false] at hP
    rw [shr_pos hn] at hP
    rw [show decide (z < 0) = false by simpa using hn] at k0
    have HR := Lib.hid hR
    have HP := Lib.hid hP
    clear hR hP b2 h1 h2 hm hp hz hn
    go_enter Try.func127, Try.ntmps127
    go_wp2_with fail
    refine (HR.out _ (Below.refl _ _)).mono ?_
    rintro e w1 ⟨A1, c1, rfl, hm1, hb1⟩
    have HP1 := Lib.hid (HP.out w1 A1 c1 hb1 hm1)
    clear hm1 hb1
    go_wp2_with fail
    refine HP1.out.mono ?_
    rintro e w4 ⟨rfl, hz2, hg2⟩
    have HE := Lib.hid (show Puts w p (z / 2 ^ n) _ w4 from ⟨rfl, hz2, hg2⟩)
    clear hz2 hg2
    go_wp2
    go_ret
    exact HE.out

/-- A number, shifted. -/
def shf (z k : Int) : Int := if 0 ≤ k then z * 2 ^ k.toNat else z / 2 ^ (-k).toNat

set_option maxHeartbeats 800000 in
theorem shifted {w : World} {q : Nat} {z k : Int} (hz : Z w q z) (h1 : bl z.natAbs ≤ 134217728) (h2 : -134217728 ≤ k) (h3 : k ≤ 134217728) :
    Calls Try.prog 89 #[.pointer (some ⟨q, 0, none⟩), .int .i64 k] w (News w (shf z k)) := by
  by_cases hk : 0 ≤ k
  · have hL := lsh (p := w.heap.size) (n := k.toNat) (Z.new w).blk (hz.below (below_alloc w _)) (by omega) (by omega)
    rw [show ((k.toNat : Nat) : Int) = k by omega] at hL
    have e : shf z k = z * 2 ^ k.toNat := by unfold shf; rw [if_pos hk]
    rw [e]
    clear e
    have HL := Lib.hid hL
    clear hL hz h1
    go_enter Try.func89, Try.ntmps89
    go_wp2_with fail
    refine HL.out.mono ?_
    intro e w1 hp
    have hN := Lib.hid (Mc.Puts.news hp)
    obtain ⟨rfl, hz, hg⟩ := hp
    clear hz hg
    go_wp2
    go_ret
    exact hN.out
  · have hL := rsh (p := w.heap.size) (n := (-k).toNat) (Z.new w).blk (hz.below (below_alloc w _)) (by omega) (by omega)
    rw [show (((-k).toNat : Nat) : Int) = -k by omega] at hL
    have e : shf z k = z / 2 ^ (-k).toNat := by unfold shf; rw [if_neg hk]
    rw [e]
    clear e
    have HL := Lib.hid hL
    clear hL hz h1
    go_enter Try.func89, Try.ntmps89
    go_wp2_with fail
    refine HL.out.mono ?_
    intro e w1 hp
    have hN := Lib.hid (Mc.Puts.news hp)
    obtain ⟨rfl, hz, hg⟩ := hp
    clear hz hg
    go_wp2
    go_ret
    exact hN.out
end Go.Proofs.Ytdjdnllnhonjkaa.Mk
