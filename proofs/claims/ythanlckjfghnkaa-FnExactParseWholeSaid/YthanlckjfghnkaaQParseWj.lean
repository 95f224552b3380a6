/- Lemmas of the claim: Md, Me. -/
import Derived.Deep.RegionHeld3
import Derived.Outline
import Derived.Deep.RegionWith
import Derived.Test.YthanlckjfghnkaaQParseWh
import Derived.Test.YthanlckjfghnkaaQParseWf
import Derived.Test.YthanlckjfghnkaaQParseWi
section
set_option linter.unusedVariables false
set_option linter.unusedSimpArgs false
namespace Go.Proofs.Ythanlckjfghnkaa.Md
open Go.RowKit Go.Proofs.YthanlckjfghnkaaW.PrintWords Go.Proofs.Ythanlckjfghnkaa.PW Go.Proofs.Ythanlckjfghnkaa.Pc Go.Proofs.Ythanlckjfghnkaa.Ma Go.Proofs.Ythanlckjfghnkaa.Mb Go.Proofs.Ythanlckjfghnkaa.Mc Dg
theorem gives_of {w : World} {n e' base : Nat} {ok : Nat → Prop} {v : Value} {e : Ending} {w' : World} (he : e = .returned v) (hv : Kd.V (Kd.int .u32) e' w' base ok v (D n)) (hb : Below w.heap.size w w') : GivesMg w n e w' := by
  obtain ⟨A, c, rfl, hm⟩ := Mg.of_V hv
  exact ⟨A, c, he, hm, hb⟩
theorem cAdd {w : World} {A B : Option Addr} {c d a b : Nat} (ha : Mg w A c (D a)) (hb : Mg w B d (D b)) (h1 : bl a ≤ 1073741823) (h2 : bl b ≤ 1073741823) :
    Calls Try.prog 73 #[.slice A (D a).length c, .slice B (D b).length d] w (GivesMg w (a + b)) := by
  rcases Nat.lt_or_ge (D a).length (D b).length with h | h
  · obtain ⟨k, hk⟩ := (Pn.add b a (by omega) h2).rounds
    refine (impl_magAdd.calls_lt k B d _ A c _ _ w hb.1 hb.2 ha.1 ha.2 (by simpa using h) hk).mono ?_
    rintro e w' ⟨v, he, hv, hbl⟩
    rw [Nat.add_comm] at hv
    exact gives_of he hv hbl
  · obtain ⟨k, hk⟩ := (Pn.add a b h h1).rounds
    refine (impl_magAdd.calls_ge k A c _ B d _ _ w ha.1 ha.2 hb.1 hb.2 (by simpa using h) hk).mono ?_
    rintro e w' ⟨v, he, hv, hbl⟩
    exact gives_of he hv hbl
theorem cSub {w : World} {A B : Option Addr} {c d a b : Nat} (ha : Mg w A c (D a)) (hb : Mg w B d (D b)) (h1 : bl a ≤ 1073741823) (h : b ≤ a) :
    Calls Try.prog 92 #[.slice A (D a).length c, .slice B (D b).length d] w (GivesMg w (a - b)) := by
  obtain ⟨k, hk⟩ := (Pn.sub a b h h1).rounds
  refine (impl_magSub.calls k A c _ B d _ _ w ha.1 ha.2 hb.1 hb.2 hk).mono ?_
  rintro e w' ⟨v, he, hv, hbl⟩
  exact gives_of he hv hbl
theorem cMul {w : World} {A B : Option Addr} {c d a b : Nat} (ha : Mg w A c (D a)) (hb : Mg w B d (D b)) (h : bl a + bl b ≤ 1073741823) :
    Calls Try.prog 74 #[.slice A (D a).length c, .slice B (D b).length d] w (GivesMg w (a * b)) := by
  obtain ⟨k, hk⟩ := (Pn.mul a b h).rounds
  refine (impl_magMul.calls k A c _ B d _ _ w ha.1 ha.2 hb.1 hb.2 hk).mono ?_
  rintro e w' ⟨v, he, hv, hbl⟩
  exact gives_of he hv hbl
theorem cClone {w : World} {A : Option Addr} {c a : Nat} (ha : Mg w A c (D a)) (h1 : bl a ≤ 1073741823) :
    Calls Try.prog 95 #[.slice A (D a).length c] w (GivesMg w a) := by
  have := D_len a
  refine (slices_Clone_uint32_uint32.calls A c _ (D a) w ha.1 ha.2 (by unfold slices_Clone_uint32_uint32.f; rw [if_pos (by omega)])).mono ?_
  rintro e w' ⟨v, he, hv, hbl⟩
  exact gives_of he (Kd.R_V (base' := 0) hv) hbl
theorem cBits {w : World} {A : Option Addr} {c a : Nat} (ha : Mg w A c (D a)) (h1 : bl a ≤ 1073741824) :
    Calls Try.prog 90 #[.slice A (D a).length c] w fun e w' => e = .returned (.int .i64 ((bl a : Nat) : Int)) ∧ ∃ n, w' = w.drewN n := by
  obtain ⟨k, hk⟩ := (Pm.bits a h1).rounds
  refine (impl_magBits.calls k A c _ _ w ha.1 ha.2 hk).mono ?_
  rintro e w' ⟨he, hw⟩
  exact ⟨he, hw.out⟩
theorem cCmp {w : World} {A B : Option Addr} {c d a b : Nat} (ha : Mg w A c (D a)) (hb : Mg w B d (D b)) (h1 : bl a ≤ 1073741824) (h2 : bl b ≤ 1073741824) :
    Calls Try.prog 94 #[.slice A (D a).length c, .slice B (D b).length d] w fun e w' => e = .returned (.int .i64 (Pm.sgn ((a : Int) - b))) ∧ ∃ n, w' = w.drewN n := by
  obtain ⟨k, hk⟩ := (Pm.cmp a b h1 h2).rounds
  refine (impl_magCmp.calls k A c _ B d _ _ w ha.1 ha.2 hb.1 hb.2 hk).mono ?_
  rintro e w' ⟨he, hw⟩
  exact ⟨he, hw.out⟩
theorem GivesMg.of {w W w' : World} {n : Nat} {e : Ending} (hb : Below w.heap.size w W) (h : GivesMg W n e w') : GivesMg w n e w' := by
  obtain ⟨A, c, he, hm, hbl⟩ := h
  exact ⟨A, c, he, hm, below_then hb hbl⟩
theorem put_of {w : World} {p : Nat} {neg : Bool} {A : Option Addr} {c n : Nat} {w1 : World} (hp : Blk w p) (hb : Below w.heap.size w w1) (hm : Mg w1 A c (D n)) (h1 : bl n ≤ 1099511627776) :
    Calls Try.prog 62 #[.pointer (some ⟨p, 0, none⟩), .bool neg, .slice A (D n).length c] w1 (Puts w p (if neg = true then -(n : Int) else n)) := by
  have hl := D_len n
  refine (put (neg := neg) (hp.below hb) hm (D_dig n) (by omega)).mono fun e w' h => ?_
  rw [D_val] at h
  exact Puts.below hb h
end Go.Proofs.Ythanlckjfghnkaa.Md
end
section
set_option linter.unusedVariables false
set_option linter.unusedSimpArgs false
namespace Go.Proofs.Ythanlckjfghnkaa.Me
open Go.RowKit Go.Proofs.YthanlckjfghnkaaW.PrintWords Go.Proofs.Ythanlckjfghnkaa.PW Go.Proofs.Ythanlckjfghnkaa.Pc Go.Proofs.Ythanlckjfghnkaa.Ma Go.Proofs.Ythanlckjfghnkaa.Mb Go.Proofs.Ythanlckjfghnkaa.Mc Go.Proofs.Ythanlckjfghnkaa.Md Dg
theorem Z.open {w : World} {q : Nat} {z : Int} (h : Z w q z) : ∃ A c, w.cell? ⟨q, 0, none⟩ = some (.bool (decide (z < 0))) ∧ w.cell? ⟨q, 1, none⟩ = some (.slice A (D z.natAbs).length c) ∧ Mg w A c (D z.natAbs) ∧ q < w.heap.size := by
  obtain ⟨A, c, hb, hm⟩ := h
  exact ⟨A, c, blk_cell hb 0, blk_cell hb 1, hm, (Array.getElem?_eq_some_iff.1 hb).1⟩
def Tells (w : World) (v : Value) (e : Ending) (w' : World) : Prop := e = .returned v ∧ ∃ n, w' = w.drewN n
theorem below_drawn {w : World} (n : Nat) : Below w.heap.size w (w.drewN n) := pw_below_drewN (Below.refl _ _) n
set_option maxHeartbeats 400000 in
theorem sign {w : World} {q : Nat} {z : Int} (hz : Z w q z) : Calls Try.prog 61 #[.pointer (some ⟨q, 0, none⟩)] w fun e w' => e = .returned (.int .i64 (Pm.sgn z)) ∧ w = w' := by
  obtain ⟨A, c, k0, k1, hm, hq⟩ := Z.open hz
  clear hz hm
  by_cases h : z < 0
  · have e : Pm.sgn z = -1 := by unfold Pm.sgn; rw [if_pos h]
    rw [show decide (z < 0) = true by simpa using h] at k0
    rw [e]
    clear e h
    go_enter Try.func61, Try.ntmps61
    go_wp2
    go_ret
    exact ⟨rfl, rfl⟩
  · rw [show decide (z < 0) = false by simpa using h] at k0
    by_cases h0 : z = 0
    · subst h0
      have e : (D (0 : Int).natAbs).length = 0 := by show (D 0).length = 0; rw [D_zero]; rfl
      rw [e] at k1
      clear e h
      go_enter Try.func61, Try.ntmps61
      go_wp2
      go_ret
      exact ⟨rfl, rfl⟩
    · have e : Pm.sgn z = 1 := by unfold Pm.sgn; rw [if_neg h, if_neg h0]
      have hp : 0 < (D z.natAbs).length := D_pos (by omega)
      rw [e]
      clear e h h0
      generalize (D z.natAbs).length = n at *
      go_enter Try.func61, Try.ntmps61
      go_wp2
      go_ret
      exact ⟨rfl, rfl⟩
set_option maxHeartbeats 400000 in
theorem bitLen {w : World} {q : Nat} {z : Int} (hz : Z w q z) (h1 : bl z.natAbs ≤ 1073741824) : Calls Try.prog 64 #[.pointer (some ⟨q, 0, none⟩)] w (Tells w (.int .i64 ((bl z.natAbs : Nat) : Int))) := by
  obtain ⟨A, c, k0, k1, hm, hq⟩ := Z.open hz
  have hB := Lib.hid (cBits hm h1)
  clear hz hm h1
  go_enter Try.func64, Try.ntmps64
  go_wp2_with fail
  refine hB.out.mono ?_
  rintro e w1 ⟨rfl, n, rfl⟩
  go_wp2
  go_ret
  exact ⟨rfl, n, rfl⟩
theorem natAbs_neg_if (z : Int) : (if (!decide (z < 0)) = true then -(z.natAbs : Int) else (z.natAbs : Int)) = -z := by
  by_cases h : z < 0
  · have : decide (z < 0) = true := by simpa using h
    rw [this]; simp; omega
  · have : decide (z < 0) = false := by simpa using h
    rw [this]; simp; omega
theorem natAbs_if (z : Int) : (if decide (z < 0) = true then -(z.natAbs : Int) else (z.natAbs : Int)) = z := by
  by_cases h : z < 0
  · rw [if_pos (by simpa using h)]; omega
  · rw [if_neg (by simpa using h)]; omega
set_option maxHeartbeats 800000 in
theorem neg {w : World} {p q : Nat} {z : Int} (hp : Blk w p) (hz : Z w q z) (h1 : bl z.natAbs ≤ 1073741823) :
    Calls Try.prog 71 #[.pointer (some ⟨p, 0, none⟩), .pointer (some ⟨q, 0, none⟩)] w (Puts w p (-z)) := by
  obtain ⟨A, c, k0, k1, hm, hq⟩ := Z.open hz
  have hL := fun (W : World) (hb : Below w.heap.size w W) => (cClone (hm.below hb) h1).mono fun e w' h => GivesMg.of hb h
  have hP := fun (w1 : World) (A' : Option Addr) (c' : Nat) h1 h2 => put_of (w1 := w1) (A := A') (c := c') (neg := !decide (z < 0)) (n := z.natAbs) hp h1 h2 (by omega)
  rw [natAbs_neg_if] at hP
  have HL := Lib.hid hL
  have HP := Lib.hid hP
  clear hL hP h1 hm hp hz
  generalize decide (z < 0) = b at *
  go_enter Try.func71, Try.ntmps71
  go_wp2
  go_region_with (first | (go_at_call 95; refine (HL.out _ (by first | exact Below.refl _ _ | exact (Below.refl _ _).drew)).mono ?_; rintro e w1 ⟨A', c', rfl, hm', hb'⟩; have HPM := Lib.hid (HP.out w1 A' c' hb' hm'); have k0' := (hb'.cell (p := ⟨q, 0, none⟩) hq).trans k0; clear hm' hb') | (go_at_call 62; refine HPM.out.mono ?_; rintro e w2 ⟨rfl, hz2, hg2⟩; have HE := Lib.hid (show Puts w p (-z) _ w2 from ⟨rfl, hz2, hg2⟩); clear hz2 hg2))
  all_goals go_wp2
  all_goals go_ret
  all_goals exact HE.out
set_option maxHeartbeats 800000 in
theorem abs {w : World} {p q : Nat} {z : Int} (hp : Blk w p) (hz : Z w q z) (h1 : bl z.natAbs ≤ 1073741823) :
    Calls Try.prog 78 #[.pointer (some ⟨p, 0, none⟩), .pointer (some ⟨q, 0, none⟩)] w (Puts w p (z.natAbs : Int)) := by
  obtain ⟨A, c, k0, k1, hm, hq⟩ := Z.open hz
  have hL := fun (W : World) (hb : Below w.heap.size w W) => (cClone (hm.below hb) h1).mono fun e w' h => GivesMg.of hb h
  have hP := fun (w1 : World) (A' : Option Addr) (c' : Nat) h1 h2 => put_of (w1 := w1) (A := A') (c := c') (neg := false) (n := z.natAbs) hp h1 h2 (by omega)
  simp only [Bool.false_eq_true, if_false] at hP
  have HL := Lib.hid hL
  have HP := Lib.hid hP
  clear hL hP h1 hm hp hz
  generalize decide (z < 0) = b at *
  go_enter Try.func78, Try.ntmps78
  go_wp2_with (first | (go_at_call 95; refine (HL.out _ (by first | exact Below.refl _ _ | exact (Below.refl _ _).drew)).mono ?_; rintro e w1 ⟨A', c', rfl, hm', hb'⟩; have HPM := Lib.hid (HP.out w1 A' c' hb' hm'); have k0' := (hb'.cell (p := ⟨q, 0, none⟩) hq).trans k0; clear hm' hb') | (go_at_call 62; refine HPM.out.mono ?_; rintro e w2 ⟨rfl, hz2, hg2⟩; have HE := Lib.hid (show Puts w p (z.natAbs : Int) _ w2 from ⟨rfl, hz2, hg2⟩); clear hz2 hg2))
  all_goals go_ret
  all_goals exact HE.out
set_option maxHeartbeats 800000 in
theorem set {w : World} {p q : Nat} {z : Int} (hp : Blk w p) (hz : Z w q z) (h1 : bl z.natAbs ≤ 1073741823) :
    Calls Try.prog 69 #[.pointer (some ⟨p, 0, none⟩), .pointer (some ⟨q, 0, none⟩)] w (Puts w p z) := by
  obtain ⟨A, c, k0, k1, hm, hq⟩ := Z.open hz
  have hL := fun (W : World) (hb : Below w.heap.size w W) => (cClone (hm.below hb) h1).mono fun e w' h => GivesMg.of hb h
  have hP := fun (w1 : World) (A' : Option Addr) (c' : Nat) h1 h2 => put_of (w1 := w1) (A := A') (c := c') (neg := decide (z < 0)) (n := z.natAbs) hp h1 h2 (by omega)
  rw [natAbs_if] at hP
  have HL := Lib.hid hL
  have HP := Lib.hid hP
  clear hL hP h1 hm hp hz
  generalize decide (z < 0) = b at *
  go_enter Try.func69, Try.ntmps69
  go_wp2
  go_region_with (first | (go_at_call 95; refine (HL.out _ (by first | exact Below.refl _ _ | exact (Below.refl _ _).drew)).mono ?_; rintro e w1 ⟨A', c', rfl, hm', hb'⟩; have HPM := Lib.hid (HP.out w1 A' c' hb' hm'); have k0' := (hb'.cell (p := ⟨q, 0, none⟩) hq).trans k0; clear hm' hb') | (go_at_call 62; refine HPM.out.mono ?_; rintro e w2 ⟨rfl, hz2, hg2⟩; have HE := Lib.hid (show Puts w p z _ w2 from ⟨rfl, hz2, hg2⟩); clear hz2 hg2))
  all_goals go_wp2
  all_goals go_ret
  all_goals exact HE.out
end Go.Proofs.Ythanlckjfghnkaa.Me
end
