/- Lemmas of the claim: Nh, Ad, Er, Hb, Hd, Es, KErrorOfRounding. -/
import Derived.Test.YtjggbalhpflbbaaGreatQERp
import Derived.Test.YtjggbalhpflbbaaGreatQERi
import Derived.Test.YtjggbalhpflbbaaGreatQERj
import Derived.Test.YtjggbalhpflbbaaGreatQERg
section
set_option linter.unusedVariables false
set_option linter.unusedSimpArgs false
namespace Go.Proofs.YtjggbalhpflbbaaGreat.Nh
open Go.RowKit Go.Proofs.YtjggbalhpflbbaaGreatW.PrintWords Go.Proofs.YtjggbalhpflbbaaGreat.PW Go.Proofs.YtjggbalhpflbbaaGreat.Pc Go.Proofs.YtjggbalhpflbbaaGreat.Pb Go.Proofs.YtjggbalhpflbbaaGreat.Pw Go.Proofs.YtjggbalhpflbbaaGreat.Ma Go.Proofs.YtjggbalhpflbbaaGreat.Mb Go.Proofs.YtjggbalhpflbbaaGreat.Mc Go.Proofs.YtjggbalhpflbbaaGreat.Md Go.Proofs.YtjggbalhpflbbaaGreat.Me Go.Proofs.YtjggbalhpflbbaaGreat.Mu Go.Proofs.YtjggbalhpflbbaaGreat.Na Go.Proofs.YtjggbalhpflbbaaGreat.Nc Dg
open Pm (sgn)
set_option maxRecDepth 20000 in
set_option maxHeartbeats 1600000 in
theorem nsub {w : World} {q s : Nat} {x y e f : Int} (hx : Z w q x) (hy : Z w s y) (hbx : bl x.natAbs ≤ 100000000) (hby : bl y.natAbs ≤ 100000000) (h1 : -1000000 ≤ e) (h2 : e ≤ 1000000) (h3 : -1000000 ≤ f) (h4 : f ≤ 1000000) :
    Calls Tryz.prog 20 #[.agg #[.pointer (some ⟨q, 0, none⟩), .int .i64 e], .agg #[.pointer (some ⟨s, 0, none⟩), .int .i64 f]] w (GivesN w (addz x e (-y) f) (adde x e (-y) f)) := by
  obtain ⟨W0, hW0⟩ : ∃ W0, W0 = ((w.alloc (.cells #[.pointer (some ⟨q, 0, none⟩), .int .i64 e] 50)).alloc (.cells #[.pointer (some ⟨s, 0, none⟩), .int .i64 f] 50)).alloc (.cells #[.pointer none, .int .i64 0] 50) := ⟨_, rfl⟩
  obtain ⟨hb0, hx0, hy0, hx1, hs0⟩ := boxes3 w (.cells #[.pointer (some ⟨q, 0, none⟩), .int .i64 e] 50) (.cells #[.pointer (some ⟨s, 0, none⟩), .int .i64 f] 50) (.cells #[.pointer none, .int .i64 0] 50) W0 (by rw [hW0]; exact Below.refl _ _)
  have zx := hx.below hb0
  have zy := hy.below hb0
  have HN := Lib.hid (fun (W : World) (hb : Below W0.heap.size W0 W) => nneg (e := f) (zy.below hb) (by omega))
  have HA := Lib.hid (fun (W : World) (g : Nat) (hb : Below W0.heap.size W0 W) (hz : Z W g (-y)) => nadd (e := e) (f := f) (zx.below hb) hz hbx (by rw [Int.natAbs_neg]; exact hby) h1 h2 h3 h4)
  obtain ⟨c0, c1, _, _, l0⟩ := cellsN hx0
  obtain ⟨e0, e1, _, _, m0⟩ := cellsN hy0
  obtain ⟨d0, d1, f0, f1, l1⟩ := cellsN hx1
  have n0 : w.heap.size ≠ w.heap.size + 1 + 1 := by omega
  have n1 := Ne.symm n0
  have stay := Lib.hid (fun (W : World) (hb : Below W0.heap.size W0 W) => (⟨cellsN ((hb.block _ l0).trans hx0), cellsN ((hb.block _ m0).trans hy0), cellsN ((hb.block _ l1).trans hx1), (hb.block _ l1).trans hx1, hb0.trans (hb.mono (Nat.le_trans (by omega) hs0))⟩ : _ ∧ _ ∧ _ ∧ _ ∧ Below w.heap.size w W))
  have HW := Lib.hid hW0
  clear hx hy hb0 hx0 hx1 hy0 hW0 zx zy hbx hby h1 h2 h3 h4
  generalize addz x e (-y) f = z at *
  generalize adde x e (-y) f = k at *
  go_enter Tryz.func20, Tryz.ntmps20
  go_wp2_with fail
  rw [← HW.out]
  clear HW
  go_region_held3 (fun w' => w'.cell? ⟨w.heap.size, 0, none⟩ = some (.pointer (some ⟨q, 0, none⟩)) ∧ w'.cell? ⟨w.heap.size, 1, none⟩ = some (.int .i64 e) ∧ w'.cell? ⟨w.heap.size + 1, 0, none⟩ = some (.pointer (some ⟨s, 0, none⟩)) ∧ w'.cell? ⟨w.heap.size + 1, 1, none⟩ = some (.int .i64 f)) (go_keep)
    (first
      | (go_at_call 46; refine (HN.out _ (by first | exact Below.refl _ _ | exact (Below.refl _ _).drew)).mono ?_; rintro en w2 ⟨g, rfl, hz, hb⟩; have hX := below_then (show Below W0.heap.size W0 _ by first | exact Below.refl _ _ | exact (Below.refl _ _).drew) hb; obtain ⟨⟨p0, p1, _, _, p2⟩, ⟨r0, r1, _, _, r2⟩, ⟨t0, t1, t2, t3, t4⟩, hx1, hbw⟩ := stay.out w2 hX; have HX := Lib.hid hX; have HZ := Lib.hid hz; clear hz hb hX hx1 hbw)
      | (go_at_call 45; refine (HA.out _ _ HX.out HZ.out).mono ?_; rintro en w3 ⟨g3, rfl, hz, hb⟩; have hX := below_then HX.out hb; obtain ⟨⟨p0, p1, _, _, p2⟩, ⟨r0, r1, _, _, r2⟩, ⟨t0, t1, t2, t3, t4⟩, hx1, hbw⟩ := stay.out w3 hX; have HX3 := Lib.hid hx1; have HB3 := Lib.hid hbw; have HZ3 := Lib.hid hz; clear hz hb hX hx1 hbw))
  all_goals go_wp2
  all_goals
    have hst := storedN (e := k) HX3.out HB3.out (by omega) HZ3.out
    exact bodyPost_ret (results_single rfl (.cell (w.heap.size + 1 + 1) 50 #[.pointer (some ⟨_, 0, none⟩), .int .i64 k] (0, 0) _ rfl hst.1 Tryz.underlying50 rfl sizeN .nil)) rfl ⟨_, rfl, hst.2.1, hst.2.2⟩
end Go.Proofs.YtjggbalhpflbbaaGreat.Nh
end
section
set_option linter.unusedVariables false
set_option linter.unusedSimpArgs false
namespace Go.Proofs.YtjggbalhpflbbaaGreat.Ad
open Go.RowKit Go.Proofs.YtjggbalhpflbbaaGreat.Pm Go.Proofs.YtjggbalhpflbbaaGreat.Mu Go.Proofs.YtjggbalhpflbbaaGreat.Nc Go.Proofs.YtjggbalhpflbbaaGreat.Qa Go.Proofs.YtjggbalhpflbbaaGreat.Re Go.Proofs.YtjggbalhpflbbaaGreat.Rf Dg Fp
structure Od (z e z' e' : Int) : Prop where
  dy : dy z e = (sgn z', L z'.natAbs, e')
  zero : z = 0 → z' = 0 ∧ e' = 0
  pos : z ≠ 0 → z' ≠ 0 ∧ z'.natAbs % 2 = 1 ∧ ∃ k : Nat, z = z' * 2 ^ k ∧ e' = e + k ∧ k < bl z.natAbs
  bl : bl z'.natAbs ≤ bl z.natAbs
theorem od (z e : Int) : ∃ z' e', Od z e z' e' := by
  by_cases h0 : z = 0
  · subst h0
    exact ⟨0, 0, (by unfold Qa.dy; rw [if_pos rfl]; show ((0 : Int), ([] : List Int), (0 : Int)) = (sgn 0, L 0, 0); rw [L_zero]; rfl), fun _ => ⟨rfl, rfl⟩, fun h => absurd rfl h, Nat.le_refl _⟩
  · have hn : z.natAbs ≠ 0 := by omega
    obtain ⟨hs1, hs2⟩ := tz_spec hn
    generalize hq : z.natAbs / 2 ^ tz z.natAbs = q at hs1 hs2
    have hq0 : q ≠ 0 := by omega
    have key : ∀ z' : Int, z'.natAbs = q → sgn z' = sgn z → z = z' * 2 ^ tz z.natAbs → ∃ z' e', Od z e z' e' := fun z' ha hs hz => by
      refine ⟨z', e + (tz z.natAbs : Nat), ?_, fun h => absurd h h0, fun _ => ⟨by omega, by omega, tz z.natAbs, hz, rfl, tz_lt hn⟩, ?_⟩
      · unfold Qa.dy
        rw [if_neg h0, hq, ha, hs]
      · rw [ha, ← hq]; exact bl_mono (Nat.div_le_self _ _)
    have hp : ((2 : Int) ^ tz z.natAbs) = ((2 ^ tz z.natAbs : Nat) : Int) := by push_cast; rfl
    by_cases hneg : z < 0
    · refine key (-(q : Int)) (by omega) ?_ ?_
      · unfold sgn; rw [if_pos (by omega), if_pos hneg]
      · rw [hp, Int.neg_mul, ← Int.natCast_mul, ← hs1]; omega
    · refine key (q : Int) (by omega) ?_ ?_
      · unfold sgn; rw [if_neg (by omega), if_neg (by omega), if_neg hneg, if_neg h0]
      · rw [hp, ← Int.natCast_mul, ← hs1]; omega
def B : Int := -100000
def at_ (z e : Int) : Int := z * 2 ^ (e - B).toNat
theorem pow_join (a b : Nat) : (2 : Int) ^ a * 2 ^ b = 2 ^ (a + b) := (Int.pow_add _ _ _).symm
theorem od_at {z e z' e' : Int} (h : Od z e z' e') (he : B ≤ e) : at_ z e = at_ z' e' := by
  unfold at_
  by_cases h0 : z = 0
  · obtain ⟨h1, h2⟩ := h.zero h0
    rw [h0, h1, Int.zero_mul, Int.zero_mul]
  · obtain ⟨_, _, k, h1, h2, _⟩ := h.pos h0
    rw [h2]
    conv => lhs; rw [h1]
    rw [Int.mul_assoc, pow_join, show k + (e - B).toNat = (e + (k : Int) - B).toNat by omega]
theorem add_at {x e y f : Int} (he : B ≤ e) (hf : B ≤ f) : at_ (addz x e y f) (adde x e y f) = at_ x e + at_ y f := by
  unfold at_ addz adde
  by_cases hx : x = 0
  · rw [if_pos hx, if_pos hx, hx, Int.zero_mul, Int.zero_add]
  · rw [if_neg hx, if_neg hx]
    by_cases hy : y = 0
    · rw [if_pos hy, if_pos hy, hy, Int.zero_mul, Int.add_zero]
    · rw [if_neg hy, if_neg hy, Int.add_mul, Int.mul_assoc, Int.mul_assoc, pow_join, pow_join]
      rw [show (e - min e f).toNat + (min e f - B).toNat = (e - B).toNat by omega, show (f - min e f).toNat + (min e f - B).toNat = (f - B).toNat by omega]
theorem adde_lo {x e y f : Int} (b : Int) (he : b ≤ e) (hf : b ≤ f) : b ≤ adde x e y f := by
  unfold adde
  split
  · exact hf
  · split <;> omega
theorem adde_hi {x e y f : Int} (b : Int) (he : e ≤ b) (hf : f ≤ b) : adde x e y f ≤ b := by
  unfold adde
  split
  · exact hf
  · split <;> omega
theorem addz_bl {x e y f : Int} {a d : Nat} (hx : bl x.natAbs ≤ a) (hy : bl y.natAbs ≤ a) (h1 : e - f ≤ d) (h2 : f - e ≤ d) : bl (addz x e y f).natAbs ≤ a + d + 1 := by
  have bx := Qc.bl_two x (e - min e f).toNat
  have by_ := Qc.bl_two y (f - min e f).toNat
  have bs := bl_add_natAbs (x * 2 ^ (e - min e f).toNat) (y * 2 ^ (f - min e f).toNat)
  unfold addz
  split
  · omega
  · split <;> omega
end Go.Proofs.YtjggbalhpflbbaaGreat.Ad
end
section
set_option linter.unusedVariables false
set_option linter.unusedSimpArgs false
namespace Go.Proofs.YtjggbalhpflbbaaGreat.Er
open Go.RowKit Go.Proofs.YtjggbalhpflbbaaGreatW.PrintWords Go.Proofs.YtjggbalhpflbbaaGreat.PW Go.Proofs.YtjggbalhpflbbaaGreat.Pc Go.Proofs.YtjggbalhpflbbaaGreat.Pb Go.Proofs.YtjggbalhpflbbaaGreat.Pm Go.Proofs.YtjggbalhpflbbaaGreat.Pw Go.Proofs.YtjggbalhpflbbaaGreat.Ma Go.Proofs.YtjggbalhpflbbaaGreat.Mh Go.Proofs.YtjggbalhpflbbaaGreat.Mu Go.Proofs.YtjggbalhpflbbaaGreat.Na Go.Proofs.YtjggbalhpflbbaaGreat.Nc Go.Proofs.YtjggbalhpflbbaaGreat.Nd Go.Proofs.YtjggbalhpflbbaaGreat.Nf Go.Proofs.YtjggbalhpflbbaaGreat.Ng Go.Proofs.YtjggbalhpflbbaaGreat.Nh Go.Proofs.YtjggbalhpflbbaaGreat.Qa Go.Proofs.YtjggbalhpflbbaaGreat.Qb Go.Proofs.YtjggbalhpflbbaaGreat.Va Go.Proofs.YtjggbalhpflbbaaGreat.Vb Go.Proofs.YtjggbalhpflbbaaGreat.Vr Go.Proofs.YtjggbalhpflbbaaGreat.Re Go.Proofs.YtjggbalhpflbbaaGreat.Rf Go.Proofs.YtjggbalhpflbbaaGreat.Ad Dg Fp
theorem rt_flags (z e mode : Int) : (rt z e mode).2 = 0 ∨ (rt z e mode).2 = 1 ∨ (rt z e mode).2 = 3 := by
  unfold rt
  split
  · exact .inl rfl
  · split
    · exact .inl rfl
    · show (if _ then (3 : Int) else 1) = 0 ∨ _
      split
      · exact .inr (.inr rfl)
      · exact .inr (.inl rfl)
theorem rnd_flags (z e mode : Int) : (rnd z e mode).2 = 5 ∨ (((rnd z e mode).2 = 0 ∨ (rnd z e mode).2 = 1 ∨ (rnd z e mode).2 = 3) ∧ fin Ieee.single (rnd z e mode).1 = true) := by
  unfold rnd
  by_cases h0 : z = 0
  · rw [if_pos h0]; exact .inr ⟨.inl rfl, by decide⟩
  · rw [if_neg h0]
    by_cases h1 : 128 < (bl z.natAbs : Int) + e
    · rw [if_pos h1]; exact .inl rfl
    · rw [if_neg h1]
      by_cases h2 : 128 < (bl (rt z e mode).1 : Int) + rq (bl z.natAbs) e
      · rw [if_pos h2]; exact .inl rfl
      · rw [if_neg h2]
        exact .inr ⟨rt_flags z e mode, (isN_fin' (near_isN _ (rt_le _ _ _) (rq_bd _ _).1 (by omega) (rq_le (by omega)))).1⟩
def dfz (x : Nat) (z e : Int) : Int := addz (zf x) (Wc.expo x) (-z) e
def dfe (x : Nat) (z e : Int) : Int := adde (zf x) (Wc.expo x) (-z) e
def erF (s : Int) (l : List Int) (e mode : Int) : Int × List Int × Int × Int :=
  if isD s l e = true then (if 0 ≤ mode ∧ mode ≤ 4 then (if (rnd (wv s l) e mode).2 = 5 then (0, [], 0, 5) else fitD (dfz (rnd (wv s l) e mode).1 (wv s l) e) (dfe (rnd (wv s l) e mode).1 (wv s l) e)) else (0, [], 0, 2)) else (0, [], 0, 1)
def impl_ErrorOfRounding.f (a0_0 : Int) (l0_1 : List Int) (a0_2 : Int) (a1 : Int) : Option (Int × List Int × Int × Int) := some (erF a0_0 l0_1 a0_2 a1)
theorem er_cases (s : Int) (l : List Int) (e mode : Int) :
    (∃ x F, isD s l e = true ∧ (0 ≤ mode ∧ mode ≤ 4) ∧ rdD s l e mode = (x, F, 0) ∧ (x, F) = rnd (wv s l) e mode ∧ (F = 0 ∨ F = 1 ∨ F = 3) ∧ fin Ieee.single x = true ∧ x < 4294967296 ∧ erF s l e mode = fitD (dfz x (wv s l) e) (dfe x (wv s l) e)) ∨
    (∃ x, isD s l e = true ∧ (0 ≤ mode ∧ mode ≤ 4) ∧ rdD s l e mode = (x, 5, 0) ∧ (x, 5) = rnd (wv s l) e mode ∧ erF s l e mode = (0, [], 0, 5)) ∨
    (∃ k : Int, (k = 1 ∨ k = 2) ∧ rdD s l e mode = (0, 0, k) ∧ erF s l e mode = (0, [], 0, k)) := by
  unfold rdD erF
  by_cases h1 : isD s l e = true
  · rw [if_pos h1, if_pos h1]
    by_cases h2 : 0 ≤ mode ∧ mode ≤ 4
    · rw [if_pos h2, if_pos h2]
      have hok := (rnd_ok (wv s l) e mode).1
      rcases rnd_flags (wv s l) e mode with h | ⟨h, hf⟩
      · rw [if_pos h]
        refine .inr (.inl ⟨(rnd (wv s l) e mode).1, h1, h2, by rw [h], ?_, rfl⟩)
        rw [← h]
      · rw [if_neg (by omega)]
        exact .inl ⟨_, _, h1, h2, rfl, rfl, h, hf, hok, rfl⟩
    · rw [if_neg h2, if_neg h2]
      exact .inr (.inr ⟨2, .inr rfl, rfl, rfl⟩)
  · rw [if_neg h1, if_neg h1]
    exact .inr (.inr ⟨1, .inl rfl, rfl, rfl⟩)
theorem df_bd {x : Nat} (fx : fin Ieee.single x = true) {z e : Int} (hz : bl z.natAbs ≤ 2400) (h1 : -3000 ≤ e) (h2 : e ≤ 3000) : bl (dfz x z e).natAbs ≤ 10000 ∧ -3000 ≤ dfe x z e ∧ dfe x z e ≤ 3000 := by
  have hb := expo_bd fx
  have hx := zf_bl x
  refine ⟨?_, adde_lo _ (by omega) (by omega), adde_hi _ (by omega) (by omega)⟩
  have := addz_bl (x := zf x) (e := Wc.expo x) (y := -z) (f := e) (a := 2400) (d := 4000) (by omega) (by rw [Int.natAbs_neg]; exact hz) (by omega) (by omega)
  unfold dfz
  omega
theorem and4 {F : Int} (h : F = 0 ∨ F = 1 ∨ F = 3) : bits .and .i64 F 4 = 0 := by rcases h with rfl | rfl | rfl <;> decide
theorem and4' : bits .and .i64 5 4 = 4 := by decide
set_option maxRecDepth 20000 in
set_option maxHeartbeats 1600000 in
theorem impl_ErrorOfRounding.calls (a0_0 : Int) (A0_1 : Option Addr) (c0_1 : Nat) (l0_1 : List Int) (a0_2 : Int) (a1 : Int) (r1 : Int) (r2 : List Int) (r3 : Int) (r4 : Int) (w : World) (hr0_1 : Kd.C (Kd.int .i64) w A0_1 l0_1.length l0_1) (hc0_1 : l0_1.length ≤ c0_1) (h : impl_ErrorOfRounding.f a0_0 l0_1 a0_2 a1 = some (r1, r2, r3, r4)) :
    Calls Tryz.prog 7 #[.agg #[.int .i64 a0_0, .slice A0_1 l0_1.length c0_1, .int .i64 a0_2], .int .i64 a1] w fun e w' => ∃ v1_ : Value, e = .returned (.tuple #[.agg #[.int .i64 r1, v1_, .int .i64 r3], .int .i64 r4]) ∧ Kd.R (Kd.int .i64) 2 w' w.heap.size (fun _ => True) v1_ r2 ∧ Below w.heap.size w w' := by
  unfold impl_ErrorOfRounding.f at h
  obtain ⟨W0, hW0⟩ : ∃ W0, W0 = (w.alloc (.cells #[.int .i64 a0_0, .slice A0_1 l0_1.length c0_1, .int .i64 a0_2] 30)).alloc (.cells #[.int .i64 0, .slice none 0 0, .int .i64 0] 30) := ⟨_, rfl⟩
  obtain ⟨hb0, stay0⟩ := two w a0_0 a0_2 A0_1 l0_1.length c0_1 hW0
  have stay := Lib.hid stay0
  have HI0 := fun (W : World) (hb : Below W0.heap.size W0 W) => iRoundD (s := a0_0) (e := a0_2) (mode := a1) (C_at (C_at hr0_1 hb0) hb) hc0_1
  have HC0 := Lib.hid (fun (W : World) (hb : Below W0.heap.size W0 W) => C_at (C_at hr0_1 hb0) hb)
  have HW := Lib.hid hW0
  clear hW0 stay0
  rcases er_cases a0_0 l0_1 a0_2 a1 with ⟨x, F, hD, hm, hrd, hxF, hF, fx, hx, her⟩ | ⟨x, hD, hm, hrd, hxF, her⟩ | ⟨k, hk, hrd, her⟩
  · rw [hrd] at HI0
    have HI := Lib.hid HI0
    rw [her] at h
    have h1 := Option.some.inj h
    have hW := isD_W hD
    have he := isD_e hD
    have b0 := (isW_eq hW).2.2
    have hbd := df_bd fx b0 he.1 he.2
    have hz1 := zf_bl x
    have he1 := expo_bd fx
    have HN := Lib.hid (fun (W : World) => nnumOf (w := W) x hx)
    have HM := Lib.hid (fun (W : World) (hb : Below W0.heap.size W0 W) => numberOf (c := c0_1) (e := a0_2) (HC0.out W hb) hW)
    have HO := Lib.hid (fun (W : World) (p q : Nat) (hp : Z W p (zf x)) (hq : Z W q (wv a0_0 l0_1)) => nsub (e := Wc.expo x) (f := a0_2) hp hq (by omega) (by omega) (by omega) (by omega) (by omega) (by omega))
    have hDy := fun (W : World) (g : Nat) (hz : Z W g (dfz x (wv a0_0 l0_1) a0_2)) => ndyadic (e := dfe x (wv a0_0 l0_1) a0_2) hz (by omega) (by omega) (by omega)
    rw [h1] at hDy
    have HD := Lib.hid hDy
    have hF4 := and4 hF
    clear hDy h h1 hrd hxF hF her hD hm hW he b0 hbd hz1 he1 hr0_1 hc0_1 HI0 hb0 fx hx
    unfold dfz dfe at HD
    go_enter Tryz.func7, Tryz.ntmps7
    go_upto_region 1 with fail
    rw [← HW.out]
    clear HW
    obtain ⟨⟨c0, c1, c2⟩, ⟨d0, d1, d2, d3, d4, d5⟩, ⟨z0, z1⟩, hx1, hbw⟩ := stay.out W0 (Below.refl _ _)
    clear hx1 hbw
    go_wp2_with fail
    refine (HI.out W0 (Below.refl _ _)).mono ?_
    rintro en w1 ⟨rfl, hb⟩
    clear c0 c1 d0 d1 d2 d3 d4 d5 z0 z1 c2
    obtain ⟨⟨c0, c1, c2⟩, ⟨d0, d1, d2, d3, d4, d5⟩, ⟨z0, z1⟩, hx1, hbw⟩ := stay.out w1 hb
    have HB1 := Lib.hid hb
    clear hx1 hbw hb
    go_upto_region 6 with fail
    go_region_held3 (fun w' => w'.cell? ⟨w.heap.size, 0, none⟩ = some (.int .i64 a0_0) ∧ w'.cell? ⟨w.heap.size, 1, none⟩ = some (.slice A0_1 l0_1.length c0_1) ∧ w'.cell? ⟨w.heap.size, 2, none⟩ = some (.int .i64 a0_2)) (go_keep)
      (first
        | (go_at_call 19; refine (HN.out _).mono ?_; rintro en w3 ⟨g, rfl, hz, hb⟩; have hX := below_then (show Below W0.heap.size W0 _ by first | exact HB1.out | exact HB1.out.drew) hb; obtain ⟨⟨c0, c1, c2⟩, ⟨d0, d1, d2, d3, d4, d5⟩, ⟨z0, z1⟩, hx1, hbw⟩ := stay.out w3 hX; have HX3 := Lib.hid hX; have HZ := Lib.hid hz; clear hz hb hX hx1 hbw)
        | (go_at_call 21; refine (HM.out _ HX3.out).mono ?_; rintro en w4 ⟨g4, rfl, hz, hb⟩; have hX := below_then HX3.out hb; obtain ⟨⟨c0, c1, c2⟩, ⟨d0, d1, d2, d3, d4, d5⟩, ⟨z0, z1⟩, hx1, hbw⟩ := stay.out w4 hX; have HX4 := Lib.hid hX; have HZ1 := Lib.hid (HZ.out.below hb); have HZ2 := Lib.hid hz; clear hz hb hX hx1 hbw HM HZ)
        | (go_at_call 20; refine (HO.out _ _ _ HZ1.out HZ2.out).mono ?_; rintro en w5 ⟨g5, rfl, hz, hb⟩; have hX := below_then HX4.out hb; obtain ⟨⟨c0, c1, c2⟩, ⟨d0, d1, d2, d3, d4, d5⟩, ⟨z0, z1⟩, hx1, hbw⟩ := stay.out w5 hX; have HX5 := Lib.hid hX; have HZ5 := Lib.hid hz; clear hz hb hX hx1 hbw HO)
        | (go_at_call 22; refine (HD.out _ _ HZ5.out).mono ?_; rintro en w6 ⟨u, rfl, hR, hb⟩; obtain ⟨A, c, rfl⟩ := Kd.R_slice hR; have hX := below_then HX5.out hb; have HR := Lib.hid (Kd.R_lower (base' := w.heap.size) hR (by omega)); obtain ⟨⟨c0, c1, c2⟩, ⟨d0, d1, d2, d3, d4, d5⟩, ⟨z0, z1⟩, hx1, hbw⟩ := stay.out w6 hX; have HX6 := Lib.hid hx1; have HB6 := Lib.hid hbw; clear hR hb hX hx1 hbw HD))
    all_goals go_wp2
    all_goals
      have hst := storedD (s := r1) (x := r3) (u := .slice A r2.length c) HX6.out HB6.out (by omega) HR.out
      exact bodyPost_ret (results_ct rfl _ _ (w.heap.size + 1) 30 #[.int .i64 r1, .slice A r2.length c, .int .i64 r3] (0, 0) _ rfl hst.1 Tryz.underlying30 rfl sizeD) rfl ⟨_, rfl, hst.2.1, hst.2.2⟩
  · rw [hrd] at HI0
    have HI := Lib.hid HI0
    rw [her] at h
    obtain ⟨rfl, h2⟩ := Prod.mk.inj (Option.some.inj h)
    obtain ⟨rfl, h3⟩ := Prod.mk.inj h2
    obtain ⟨rfl, rfl⟩ := Prod.mk.inj h3
    have hF4 := and4'
    clear h h2 h3 hrd hxF her hD hm hr0_1 hc0_1 HI0 hb0 HC0
    go_enter Tryz.func7, Tryz.ntmps7
    go_upto_region 1 with fail
    rw [← HW.out]
    clear HW
    obtain ⟨⟨c0, c1, c2⟩, ⟨d0, d1, d2, d3, d4, d5⟩, ⟨z0, z1⟩, hx1, hbw⟩ := stay.out W0 (Below.refl _ _)
    clear hx1 hbw
    go_wp2_with fail
    refine (HI.out W0 (Below.refl _ _)).mono ?_
    rintro en w1 ⟨rfl, hb⟩
    clear c0 c1 d0 d1 d2 d3 d4 d5 z0 z1 c2
    obtain ⟨⟨c0, c1, c2⟩, ⟨d0, d1, d2, d3, d4, d5⟩, ⟨z0, z1⟩, hx1, hbw⟩ := stay.out w1 hb
    have HX := Lib.hid hx1
    have HB := Lib.hid hbw
    clear hx1 hbw hb
    go_wp2
    have hst := storedD (s := 0) (x := 0) (u := .slice none 0 0) HX.out HB.out (by omega) (Kd.R_nil _ _ _ _ _)
    exact bodyPost_ret (results_ct rfl _ _ (w.heap.size + 1) 30 #[.int .i64 0, .slice none 0 0, .int .i64 0] (0, 0) _ rfl hst.1 Tryz.underlying30 rfl sizeD) rfl ⟨_, rfl, hst.2.1, hst.2.2⟩
  · rw [hrd] at HI0
    have HI := Lib.hid HI0
    rw [her] at h
    obtain ⟨rfl, h2⟩ := Prod.mk.inj (Option.some.inj h)
    obtain ⟨rfl, h3⟩ := Prod.mk.inj h2
    obtain ⟨rfl, rfl⟩ := Prod.mk.inj h3
    clear h h2 h3 hrd her hr0_1 hc0_1 HI0 hb0 HC0
    rcases hk with rfl | rfl
    all_goals
      go_enter Tryz.func7, Tryz.ntmps7
      go_upto_region 1 with fail
      rw [← HW.out]
      clear HW
      obtain ⟨⟨c0, c1, c2⟩, ⟨d0, d1, d2, d3, d4, d5⟩, ⟨z0, z1⟩, hx1, hbw⟩ := stay.out W0 (Below.refl _ _)
      clear hx1 hbw
      go_wp2_with fail
      refine (HI.out W0 (Below.refl _ _)).mono ?_
      rintro en w1 ⟨rfl, hb⟩
      clear c0 c1 d0 d1 d2 d3 d4 d5 z0 z1 c2
      obtain ⟨⟨c0, c1, c2⟩, ⟨d0, d1, d2, d3, d4, d5⟩, ⟨z0, z1⟩, hx1, hbw⟩ := stay.out w1 hb
      have HX := Lib.hid hx1
      have HB := Lib.hid hbw
      clear hx1 hbw hb
      go_wp2
      have hst := storedD (s := 0) (x := 0) (u := .slice none 0 0) HX.out HB.out (by omega) (Kd.R_nil _ _ _ _ _)
      exact bodyPost_ret (results_ct rfl _ _ (w.heap.size + 1) 30 #[.int .i64 0, .slice none 0 0, .int .i64 0] (0, 0) _ rfl hst.1 Tryz.underlying30 rfl sizeD) rfl ⟨_, rfl, hst.2.1, hst.2.2⟩
end Go.Proofs.YtjggbalhpflbbaaGreat.Er
end
section
set_option linter.unusedVariables false
set_option linter.unusedSimpArgs false
namespace Go.Proofs.YtjggbalhpflbbaaGreat.Hb
open Go.RowKit Go.Proofs.YtjggbalhpflbbaaGreatW.PrintWords Go.Proofs.YtjggbalhpflbbaaGreatW.PrintLast Go.Proofs.YtjggbalhpflbbaaGreatW.PrintMore Go.Proofs.YtjggbalhpflbbaaGreat.PW Go.Proofs.YtjggbalhpflbbaaGreat.Pc Go.Proofs.YtjggbalhpflbbaaGreat.Ma Go.Proofs.YtjggbalhpflbbaaGreat.Mh Go.Proofs.YtjggbalhpflbbaaGreat.Mu Go.Proofs.YtjggbalhpflbbaaGreat.Na Go.Proofs.YtjggbalhpflbbaaGreat.Nd
theorem threeD (w : World) (s0 e0 : Int) (A0 : Option Addr) (n0 c0 : Nat) (s1 e1 : Int) (A1 : Option Addr) (n1 c1 : Nat) {W0 : World} (hW0 : W0 = ((w.alloc (.cells #[.int .i64 s0, .slice A0 n0 c0, .int .i64 e0] 30)).alloc (.cells #[.int .i64 s1, .slice A1 n1 c1, .int .i64 e1] 30)).alloc (.cells #[.int .i64 0, .slice none 0 0, .int .i64 0] 30)) :
    ∀ W, Below W0.heap.size W0 W → ((W.cell? ⟨w.heap.size, 0, none⟩ = some (.int .i64 s0) ∧ W.cell? ⟨w.heap.size, 1, none⟩ = some (.slice A0 n0 c0) ∧ W.cell? ⟨w.heap.size, 2, none⟩ = some (.int .i64 e0)) ∧ (W.cell? ⟨w.heap.size + 1, 0, none⟩ = some (.int .i64 s1) ∧ W.cell? ⟨w.heap.size + 1, 1, none⟩ = some (.slice A1 n1 c1) ∧ W.cell? ⟨w.heap.size + 1, 2, none⟩ = some (.int .i64 e1))) ∧
      (W.cell? ⟨w.heap.size + 1 + 1, 0, none⟩ = some (.int .i64 0) ∧ W.cell? ⟨w.heap.size + 1 + 1, 1, none⟩ = some (.slice none 0 0) ∧ W.cell? ⟨w.heap.size + 1 + 1, 2, none⟩ = some (.int .i64 0) ∧ W.frozen? ⟨w.heap.size + 1 + 1, 0, none⟩ = false ∧ W.frozen? ⟨w.heap.size + 1 + 1, 1, none⟩ = false ∧ W.frozen? ⟨w.heap.size + 1 + 1, 2, none⟩ = false) ∧ (w.heap.size < W.heap.size ∧ w.heap.size + 1 < W.heap.size ∧ w.heap.size + 1 + 1 < W.heap.size) ∧ W.heap[w.heap.size + 1 + 1]? = some (.cells #[.int .i64 0, .slice none 0 0, .int .i64 0] 30 (0, 0)) ∧ Below w.heap.size w W := fun W hb => by
  obtain ⟨hb0, hx0, hx1, hx2, hs0⟩ := boxes3 w (.cells #[.int .i64 s0, .slice A0 n0 c0, .int .i64 e0] 30) (.cells #[.int .i64 s1, .slice A1 n1 c1, .int .i64 e1] 30) (.cells #[.int .i64 0, .slice none 0 0, .int .i64 0] 30) W0 (by rw [hW0]; exact Below.refl _ _)
  have hy2 := (hb.block _ (by omega)).trans hx2
  obtain ⟨a0, a1, a2, _, _, _, z0⟩ := cellsD ((hb.block _ (by omega)).trans hx0)
  obtain ⟨b0, b1, b2, _, _, _, z1⟩ := cellsD ((hb.block _ (by omega)).trans hx1)
  obtain ⟨d0, d1, d2, d3, d4, d5, z2⟩ := cellsD hy2
  exact ⟨⟨⟨a0, a1, a2⟩, b0, b1, b2⟩, ⟨d0, d1, d2, d3, d4, d5⟩, ⟨z0, z1, z2⟩, hy2, below_then hb0 hb⟩
set_option maxRecDepth 20000 in
set_option maxHeartbeats 1600000 in
theorem handAdd3 (k : Nat) (a0_0 : Int) (A0_1 : Option Addr) (c0_1 : Nat) (l0_1 : List Int) (a0_2 : Int) (a1_0 : Int) (A1_1 : Option Addr) (c1_1 : Nat) (l1_1 : List Int) (a1_2 : Int) (r1 : Int) (r2 : List Int) (r3 : Int) (w : World) (g1 : -1000000 ≤ a0_2) (g2 : a0_2 ≤ 1000000) (g3 : -1000000 ≤ a1_2) (g4 : a1_2 ≤ 1000000) (hr0_1 : Kd.C (Kd.int .i64) w A0_1 l0_1.length l0_1) (hc0_1 : l0_1.length ≤ c0_1) (hr1_1 : Kd.C (Kd.int .i64) w A1_1 l1_1.length l1_1) (hc1_1 : l1_1.length ≤ c1_1) (h : spec_l03Add.f k a0_0 l0_1 a0_2 a1_0 l1_1 a1_2 = some (r1, r2, r3)) :
    Calls Tryz.prog 34 #[.agg #[.int .i64 a0_0, .slice A0_1 l0_1.length c0_1, .int .i64 a0_2], .agg #[.int .i64 a1_0, .slice A1_1 l1_1.length c1_1, .int .i64 a1_2]] w fun e w' => ∃ v1_ : Value, e = .returned (.agg #[.int .i64 r1, v1_, .int .i64 r3]) ∧ Kd.R (Kd.int .i64) 2 w' w.heap.size (fun _ => True) v1_ r2 ∧ Below w.heap.size w w' := by
  unfold spec_l03Add.f at h
  obtain ⟨W0, hW0⟩ : ∃ W0, W0 = ((w.alloc (.cells #[.int .i64 a0_0, .slice A0_1 l0_1.length c0_1, .int .i64 a0_2] 30)).alloc (.cells #[.int .i64 a1_0, .slice A1_1 l1_1.length c1_1, .int .i64 a1_2] 30)).alloc (.cells #[.int .i64 0, .slice none 0 0, .int .i64 0] 30) := ⟨_, rfl⟩
  have stay0 := threeD w a0_0 a0_2 A0_1 l0_1.length c0_1 a1_0 a1_2 A1_1 l1_1.length c1_1 hW0
  have HCa := Lib.hid (fun (W : World) (hb : Below W0.heap.size W0 W) => C_at hr0_1 (stay0 W hb).2.2.2.2)
  have HCb := Lib.hid (fun (W : World) (hb : Below W0.heap.size W0 W) => C_at hr1_1 (stay0 W hb).2.2.2.2)
  have HLa := Lib.hid hc0_1
  have HLb := Lib.hid hc1_1
  have stay := Lib.hid stay0
  have HW := Lib.hid hW0
  clear hW0 stay0 hr0_1 hr1_1 hc0_1 hc1_1
  by_cases h0 : a0_0 = 0
  · rw [if_pos h0] at h
    obtain ⟨⟨q1, q2, q3⟩, hm, hq⟩ := Option.bind_eq_some_iff.1 h
    obtain ⟨rfl, hq2⟩ := Prod.mk.inj (Option.some.inj hq)
    obtain ⟨rfl, rfl⟩ := Prod.mk.inj hq2
    have HMK := Lib.hid (spec_l03Make.calls k a1_0 A1_1 c1_1 l1_1 a1_2 _ _ _ W0 (HCb.out W0 (Below.refl _ _)) HLb.out hm)
    have HZ0 := Lib.hid (stay.out W0 (Below.refl _ _)).2.2.1.1
    subst h0
    clear h hq hq2 hm
    generalize q1 = r1 at *
    generalize q2 = r2 at *
    generalize q3 = r3 at *
    go_enter Tryz.func34, Tryz.ntmps34
    go_upto_region 1 with fail
    rw [← HW.out]
    clear HW
    obtain ⟨⟨⟨c0, c1, c2⟩, d0, d1, d2⟩, ⟨e0, e1, e2, f0, f1, f2⟩, ⟨z0, z1, z2⟩, hx, hbw⟩ := stay.out W0 (Below.refl _ _)
    clear hx hbw
    have n1a : w.heap.size ≠ w.heap.size + 1 + 1 := by omega
    have n1b := Ne.symm n1a
    go_wp2_with fail
    refine HMK.out.mono ?_
    rintro en w1 ⟨u, rfl, hR, hb⟩
    obtain ⟨A, c, rfl⟩ := Kd.R_slice hR
    clear c0 c1 c2 d0 d1 d2 e0 e1 e2 f0 f1 f2 z0 z1 z2
    obtain ⟨⟨⟨c0, c1, c2⟩, d0, d1, d2⟩, ⟨e0, e1, e2, f0, f1, f2⟩, ⟨z0, z1, z2⟩, hx, hbw⟩ := stay.out w1 hb
    have HX := Lib.hid hx
    have HB := Lib.hid hbw
    have HR := Lib.hid (Kd.R_lower (base' := w.heap.size) hR (by have := HZ0.out; omega))
    clear hR hb hx hbw
    go_wp2
    have hst := storedD (s := r1) (x := r3) (u := .slice A r2.length c) HX.out HB.out (by omega) HR.out
    exact bodyPost_ret (results_single rfl (.cell (w.heap.size + 1 + 1) 30 #[.int .i64 r1, .slice A r2.length c, .int .i64 r3] (0, 0) _ rfl hst.1 Tryz.underlying30 rfl sizeD .nil)) rfl ⟨_, rfl, hst.2.1, hst.2.2⟩
  rw [if_neg h0] at h
  have h0b : (a0_0 == 0) = false := by simpa using h0
  by_cases h1 : a1_0 = 0
  · rw [if_pos h1] at h
    obtain ⟨⟨q1, q2, q3⟩, hm, hq⟩ := Option.bind_eq_some_iff.1 h
    obtain ⟨rfl, hq2⟩ := Prod.mk.inj (Option.some.inj hq)
    obtain ⟨rfl, rfl⟩ := Prod.mk.inj hq2
    have HMK := Lib.hid (spec_l03Make.calls k a0_0 A0_1 c0_1 l0_1 a0_2 _ _ _ W0 (HCa.out W0 (Below.refl _ _)) HLa.out hm)
    have HZ0 := Lib.hid (stay.out W0 (Below.refl _ _)).2.2.1.1
    subst h1
    clear h hq hq2 hm
    generalize q1 = r1 at *
    generalize q2 = r2 at *
    generalize q3 = r3 at *
    go_enter Tryz.func34, Tryz.ntmps34
    go_upto_region 1 with fail
    rw [← HW.out]
    clear HW
    obtain ⟨⟨⟨c0, c1, c2⟩, d0, d1, d2⟩, ⟨e0, e1, e2, f0, f1, f2⟩, ⟨z0, z1, z2⟩, hx, hbw⟩ := stay.out W0 (Below.refl _ _)
    clear hx hbw
    have n1a : w.heap.size ≠ w.heap.size + 1 + 1 := by omega
    have n1b := Ne.symm n1a
    go_wp2_with fail
    refine HMK.out.mono ?_
    rintro en w1 ⟨u, rfl, hR, hb⟩
    obtain ⟨A, c, rfl⟩ := Kd.R_slice hR
    clear c0 c1 c2 d0 d1 d2 e0 e1 e2 f0 f1 f2 z0 z1 z2
    obtain ⟨⟨⟨c0, c1, c2⟩, d0, d1, d2⟩, ⟨e0, e1, e2, f0, f1, f2⟩, ⟨z0, z1, z2⟩, hx, hbw⟩ := stay.out w1 hb
    have HX := Lib.hid hx
    have HB := Lib.hid hbw
    have HR := Lib.hid (Kd.R_lower (base' := w.heap.size) hR (by have := HZ0.out; omega))
    clear hR hb hx hbw
    go_wp2
    have hst := storedD (s := r1) (x := r3) (u := .slice A r2.length c) HX.out HB.out (by omega) HR.out
    exact bodyPost_ret (results_single rfl (.cell (w.heap.size + 1 + 1) 30 #[.int .i64 r1, .slice A r2.length c, .int .i64 r3] (0, 0) _ rfl hst.1 Tryz.underlying30 rfl sizeD .nil)) rfl ⟨_, rfl, hst.2.1, hst.2.2⟩
  rw [if_neg h1] at h
  have h1b : (a1_0 == 0) = false := by simpa using h1
  obtain ⟨M, hM⟩ : ∃ M, M = mn a0_2 a1_2 := ⟨_, rfl⟩
  have m1 : a0_2 ≤ a1_2 → M = a0_2 := fun hh => by rw [hM]; unfold mn; rw [if_neg (by omega)]
  have m2 : ¬ a0_2 ≤ a1_2 → M = a1_2 := fun hh => by rw [hM]; unfold mn; rw [if_pos (by omega)]
  rw [← hM] at h
  have hMb : -1000000 ≤ M ∧ M ≤ 1000000 := by
    by_cases hh : a0_2 ≤ a1_2
    · have := m1 hh; omega
    · have := m2 hh; omega
  obtain ⟨mb1, mb2⟩ := hMb
  rw [wrapZ (a0_2 - M) (by omega) (by omega), wrapZ (a1_2 - M) (by omega) (by omega)] at h
  obtain ⟨⟨p1, p2⟩, hp, h⟩ := Option.bind_eq_some_iff.1 h
  obtain ⟨⟨o1, o2⟩, ho, h⟩ := Option.bind_eq_some_iff.1 h
  obtain ⟨⟨s1, s2⟩, hs, h⟩ := Option.bind_eq_some_iff.1 h
  obtain ⟨⟨q1, q2, q3⟩, hm, hq⟩ := Option.bind_eq_some_iff.1 h
  obtain ⟨rfl, hq2⟩ := Prod.mk.inj (Option.some.inj hq)
  obtain ⟨rfl, rfl⟩ := Prod.mk.inj hq2
  dsimp only at ho hs hm
  have hl1 := fun (W : World) (hb : Below W0.heap.size W0 W) => spec_l02Left.calls k a0_0 A0_1 c0_1 l0_1 (a0_2 - M) p1 p2 W (HCa.out W hb) HLa.out hp
  have hl2 := fun (W : World) (hb : Below W0.heap.size W0 W) => spec_l02Left.calls k a1_0 A1_1 c1_1 l1_1 (a1_2 - M) o1 o2 W (HCb.out W hb) HLb.out ho
  rw [← show IntKind.i64.wrap (a0_2 - M) = a0_2 - M by rw [IntKind.wrap_i64]; omega] at hl1
  rw [← show IntKind.i64.wrap (a1_2 - M) = a1_2 - M by rw [IntKind.wrap_i64]; omega] at hl2
  have HL1 := Lib.hid hl1
  have HL2 := Lib.hid hl2
  have HAD := Lib.hid (fun (W : World) (A : Option Addr) (c : Nat) (B : Option Addr) (d : Nat) (hA : (Kd.int .i64).C W A p2.length p2) (hc : p2.length ≤ c) (hB : (Kd.int .i64).C W B o2.length o2) (hd : o2.length ≤ d) => Ha.handAdd2 k p1 A c p2 o1 B d o2 s1 s2 W hA hc hB hd hs)
  have HMK := Lib.hid (fun (W : World) (A : Option Addr) (c : Nat) (hA : (Kd.int .i64).C W A s2.length s2) (hc : s2.length ≤ c) => spec_l03Make.calls k s1 A c s2 M _ _ _ W hA hc hm)
  have HM1 := Lib.hid m1
  have HM2 := Lib.hid m2
  clear h hq hq2 hm hp ho hs m1 m2 hM hl1 hl2
  generalize q1 = r1 at *
  generalize q2 = r2 at *
  generalize q3 = r3 at *
  go_enter Tryz.func34, Tryz.ntmps34
  go_upto_region 1 with fail
  rw [← HW.out]
  clear HW
  obtain ⟨⟨⟨c0, c1, c2⟩, d0, d1, d2⟩, ⟨e0, e1, e2, f0, f1, f2⟩, ⟨z0, z1, z2⟩, hx, hbw⟩ := stay.out W0 (Below.refl _ _)
  clear hx hbw
  have n1a : w.heap.size ≠ w.heap.size + 1 + 1 := by omega
  have n1b := Ne.symm n1a
  go_upto_region 5 with fail
  go_cut [5] (fun v5 wx => v5 = .int .i64 M ∧ wx = W0)
  case first =>
    by_cases hh : a0_2 ≤ a1_2
    all_goals go_wp2
    all_goals go_meet
    · exact ⟨by rw [HM1.out (by omega)], rfl⟩
    · exact ⟨by rw [HM2.out (by omega)], rfl⟩
  case rest =>
    obtain ⟨rfl, rfl⟩ := hcut
    have HBc := Lib.hid (Below.refl wc.heap.size wc)
    go_upto_region 6 with fail
    go_region_held3 (fun w' => (w'.cell? ⟨w.heap.size, 0, none⟩ = some (.int .i64 a0_0) ∧ w'.cell? ⟨w.heap.size, 1, none⟩ = some (.slice A0_1 l0_1.length c0_1) ∧ w'.cell? ⟨w.heap.size, 2, none⟩ = some (.int .i64 a0_2)) ∧ w'.cell? ⟨w.heap.size + 1, 0, none⟩ = some (.int .i64 a1_0) ∧ w'.cell? ⟨w.heap.size + 1, 1, none⟩ = some (.slice A1_1 l1_1.length c1_1) ∧ w'.cell? ⟨w.heap.size + 1, 2, none⟩ = some (.int .i64 a1_2)) (go_keep)
      (first
        | (go_at_call 56; refine (HL1.out _ (by first | exact HBc.out | exact HBc.out.drew)).mono ?_; rintro en w2 ⟨u, rfl, hR, hb⟩; obtain ⟨A2, c9, rfl⟩ := Kd.R_slice hR; have hX := below_then (show Below wc.heap.size wc _ by first | exact HBc.out | exact HBc.out.drew) hb; obtain ⟨⟨⟨c0, c1, c2⟩, d0, d1, d2⟩, ⟨e0, e1, e2, f0, f1, f2⟩, ⟨z0, z1, z2⟩, hx, hbw⟩ := stay.out w2 hX; have HX2 := Lib.hid hX; have HRR := Lib.hid (Kd.R_reads' hR); clear hR hb hX hx hbw HL1)
        | (go_at_call 56; refine (HL2.out _ HX2.out).mono ?_; rintro en w3 ⟨u3, rfl, hR, hb⟩; obtain ⟨A3, c8, rfl⟩ := Kd.R_slice hR; have hX := below_then HX2.out hb; obtain ⟨⟨⟨c0, c1, c2⟩, d0, d1, d2⟩, ⟨e0, e1, e2, f0, f1, f2⟩, ⟨z0, z1, z2⟩, hx, hbw⟩ := stay.out w3 hX; have HX3 := Lib.hid hX; have HRa := Lib.hid (C_at HRR.out.2.2 hb); have HRb := Lib.hid (Kd.R_reads' hR); clear hR hb hX hx hbw HL2)
        | (go_at_call 59; refine (HAD.out _ _ _ _ _ HRa.out HRR.out.2.1 HRb.out.2.2 HRb.out.2.1).mono ?_; rintro en w4 ⟨u4, rfl, hR, hb⟩; obtain ⟨A4, c7, rfl⟩ := Kd.R_slice hR; have hX := below_then HX3.out hb; obtain ⟨⟨⟨c0, c1, c2⟩, d0, d1, d2⟩, ⟨e0, e1, e2, f0, f1, f2⟩, ⟨z0, z1, z2⟩, hx, hbw⟩ := stay.out w4 hX; have HX4 := Lib.hid hX; have HRs := Lib.hid (Kd.R_reads' hR); clear hR hb hX hx hbw)
        | (go_at_call 37; refine (HMK.out _ _ _ HRs.out.2.2 HRs.out.2.1).mono ?_; rintro en w5 ⟨u5, rfl, hR, hb⟩; obtain ⟨A, c, rfl⟩ := Kd.R_slice hR; have hX := below_then HX4.out hb; have HR := Lib.hid (Kd.R_lower (base' := w.heap.size) hR (by omega)); obtain ⟨⟨⟨c0, c1, c2⟩, d0, d1, d2⟩, ⟨e0, e1, e2, f0, f1, f2⟩, ⟨z0, z1, z2⟩, hx, hbw⟩ := stay.out w5 hX; have HX := Lib.hid hx; have HB := Lib.hid hbw; clear hR hb hX hx hbw))
    all_goals go_wp2
    all_goals
      have hst := storedD (s := r1) (x := r3) (u := .slice A r2.length c) HX.out HB.out (by omega) HR.out
      exact bodyPost_ret (results_single rfl (.cell (w.heap.size + 1 + 1) 30 #[.int .i64 r1, .slice A r2.length c, .int .i64 r3] (0, 0) _ rfl hst.1 Tryz.underlying30 rfl sizeD .nil)) rfl ⟨_, rfl, hst.2.1, hst.2.2⟩
end Go.Proofs.YtjggbalhpflbbaaGreat.Hb
end
section
set_option linter.unusedVariables false
set_option linter.unusedSimpArgs false
namespace Go.Proofs.YtjggbalhpflbbaaGreat.Hd
open Go.RowKit Go.Proofs.YtjggbalhpflbbaaGreatW.PrintWords Go.Proofs.YtjggbalhpflbbaaGreatW.PrintLast Go.Proofs.YtjggbalhpflbbaaGreatW.PrintMore Go.Proofs.YtjggbalhpflbbaaGreat.PW Go.Proofs.YtjggbalhpflbbaaGreat.Pc Go.Proofs.YtjggbalhpflbbaaGreat.Ma Go.Proofs.YtjggbalhpflbbaaGreat.Mh Go.Proofs.YtjggbalhpflbbaaGreat.Mu Go.Proofs.YtjggbalhpflbbaaGreat.Na Go.Proofs.YtjggbalhpflbbaaGreat.Nd
set_option maxRecDepth 20000 in
set_option maxHeartbeats 1600000 in
theorem handSub3 (k j : Nat) (a0_0 : Int) (A0_1 : Option Addr) (c0_1 : Nat) (l0_1 : List Int) (a0_2 : Int) (a1_0 : Int) (A1_1 : Option Addr) (c1_1 : Nat) (l1_1 : List Int) (a1_2 : Int) (s1 : Int) (n1 : List Int) (r1 : Int) (r2 : List Int) (r3 : Int) (w : World) (g1 : -1000000 ≤ a0_2) (g2 : a0_2 ≤ 1000000) (g3 : -1000000 ≤ a1_2) (g4 : a1_2 ≤ 1000000) (hr0_1 : Kd.C (Kd.int .i64) w A0_1 l0_1.length l0_1) (hc0_1 : l0_1.length ≤ c0_1) (hr1_1 : Kd.C (Kd.int .i64) w A1_1 l1_1.length l1_1) (hc1_1 : l1_1.length ≤ c1_1) (hn : spec_l03Neg.f k a1_0 l1_1 a1_2 = some (s1, n1, a1_2)) (ha : spec_l03Add.f j a0_0 l0_1 a0_2 s1 n1 a1_2 = some (r1, r2, r3)) :
    Calls Tryz.prog 15 #[.agg #[.int .i64 a0_0, .slice A0_1 l0_1.length c0_1, .int .i64 a0_2], .agg #[.int .i64 a1_0, .slice A1_1 l1_1.length c1_1, .int .i64 a1_2]] w fun e w' => ∃ v1_ : Value, e = .returned (.agg #[.int .i64 r1, v1_, .int .i64 r3]) ∧ Kd.R (Kd.int .i64) 2 w' w.heap.size (fun _ => True) v1_ r2 ∧ Below w.heap.size w w' := by
  obtain ⟨W0, hW0⟩ : ∃ W0, W0 = ((w.alloc (.cells #[.int .i64 a0_0, .slice A0_1 l0_1.length c0_1, .int .i64 a0_2] 30)).alloc (.cells #[.int .i64 a1_0, .slice A1_1 l1_1.length c1_1, .int .i64 a1_2] 30)).alloc (.cells #[.int .i64 0, .slice none 0 0, .int .i64 0] 30) := ⟨_, rfl⟩
  have stay0 := Hb.threeD w a0_0 a0_2 A0_1 l0_1.length c0_1 a1_0 a1_2 A1_1 l1_1.length c1_1 hW0
  have HCa := Lib.hid (fun (W : World) (hb : Below W0.heap.size W0 W) => C_at hr0_1 (stay0 W hb).2.2.2.2)
  have HNG := Lib.hid (fun (W : World) (hb : Below W0.heap.size W0 W) => spec_l03Neg.calls k a1_0 A1_1 c1_1 l1_1 a1_2 _ _ _ W (C_at hr1_1 (stay0 W hb).2.2.2.2) hc1_1 hn)
  have HAD := Lib.hid (fun (W : World) (hb : Below W0.heap.size W0 W) (B : Option Addr) (d : Nat) (hB : (Kd.int .i64).C W B n1.length n1) (hd : n1.length ≤ d) => Hb.handAdd3 j a0_0 A0_1 c0_1 l0_1 a0_2 s1 B d n1 a1_2 _ _ _ W g1 g2 g3 g4 (HCa.out W hb) hc0_1 hB hd ha)
  have stay := Lib.hid stay0
  have HW := Lib.hid hW0
  clear hW0 stay0 hr0_1 hr1_1 hc0_1 hc1_1 hn ha
  go_enter Tryz.func15, Tryz.ntmps15
  go_upto_region 1 with fail
  rw [← HW.out]
  clear HW
  obtain ⟨⟨⟨c0, c1, c2⟩, d0, d1, d2⟩, ⟨e0, e1, e2, f0, f1, f2⟩, ⟨z0, z1, z2⟩, hx, hbw⟩ := stay.out W0 (Below.refl _ _)
  clear hx hbw
  have n1a : w.heap.size ≠ w.heap.size + 1 + 1 := by omega
  have n1b := Ne.symm n1a
  have HBc := Lib.hid (Below.refl W0.heap.size W0)
  go_region_held3 (fun w' => (w'.cell? ⟨w.heap.size, 0, none⟩ = some (.int .i64 a0_0) ∧ w'.cell? ⟨w.heap.size, 1, none⟩ = some (.slice A0_1 l0_1.length c0_1) ∧ w'.cell? ⟨w.heap.size, 2, none⟩ = some (.int .i64 a0_2)) ∧ w'.cell? ⟨w.heap.size + 1, 0, none⟩ = some (.int .i64 a1_0) ∧ w'.cell? ⟨w.heap.size + 1, 1, none⟩ = some (.slice A1_1 l1_1.length c1_1) ∧ w'.cell? ⟨w.heap.size + 1, 2, none⟩ = some (.int .i64 a1_2)) (go_keep)
    (first
      | (go_at_call 35; refine (HNG.out _ (by first | exact HBc.out | exact HBc.out.drew)).mono ?_; rintro en w2 ⟨u, rfl, hR, hb⟩; obtain ⟨A2, c9, rfl⟩ := Kd.R_slice hR; have hX := below_then (show Below W0.heap.size W0 _ by first | exact HBc.out | exact HBc.out.drew) hb; obtain ⟨⟨⟨c0, c1, c2⟩, d0, d1, d2⟩, ⟨e0, e1, e2, f0, f1, f2⟩, ⟨z0, z1, z2⟩, hx, hbw⟩ := stay.out w2 hX; have HX2 := Lib.hid hX; have HRR := Lib.hid (Kd.R_reads' hR); clear hR hb hX hx hbw)
      | (go_at_call 34; refine (HAD.out _ HX2.out _ _ HRR.out.2.2 HRR.out.2.1).mono ?_; rintro en w5 ⟨u5, rfl, hR, hb⟩; obtain ⟨A, c, rfl⟩ := Kd.R_slice hR; have hX := below_then HX2.out hb; have HR := Lib.hid (Kd.R_lower (base' := w.heap.size) hR (by omega)); obtain ⟨⟨⟨c0, c1, c2⟩, d0, d1, d2⟩, ⟨e0, e1, e2, f0, f1, f2⟩, ⟨z0, z1, z2⟩, hx, hbw⟩ := stay.out w5 hX; have HX := Lib.hid hx; have HB := Lib.hid hbw; clear hR hb hX hx hbw))
  all_goals go_wp2
  all_goals
    have hst := storedD (s := r1) (x := r3) (u := .slice A r2.length c) HX.out HB.out (by omega) HR.out
    exact bodyPost_ret (results_single rfl (.cell (w.heap.size + 1 + 1) 30 #[.int .i64 r1, .slice A r2.length c, .int .i64 r3] (0, 0) _ rfl hst.1 Tryz.underlying30 rfl sizeD .nil)) rfl ⟨_, rfl, hst.2.1, hst.2.2⟩
end Go.Proofs.YtjggbalhpflbbaaGreat.Hd
end
section
set_option linter.unusedVariables false
set_option linter.unusedSimpArgs false
namespace Go.Proofs.YtjggbalhpflbbaaGreat.Es
open Go.RowKit Go.Proofs.YtjggbalhpflbbaaGreatW.PrintWords Go.Proofs.YtjggbalhpflbbaaGreatW.PrintLast Go.Proofs.YtjggbalhpflbbaaGreatW.PrintMore Go.Proofs.YtjggbalhpflbbaaGreat.PW Go.Proofs.YtjggbalhpflbbaaGreat.Pc Go.Proofs.YtjggbalhpflbbaaGreat.Pb Go.Proofs.YtjggbalhpflbbaaGreat.Pm Go.Proofs.YtjggbalhpflbbaaGreat.Pw Go.Proofs.YtjggbalhpflbbaaGreat.Ma Go.Proofs.YtjggbalhpflbbaaGreat.Mh Go.Proofs.YtjggbalhpflbbaaGreat.Mu Go.Proofs.YtjggbalhpflbbaaGreat.Na Go.Proofs.YtjggbalhpflbbaaGreat.Nc Go.Proofs.YtjggbalhpflbbaaGreat.Nd Go.Proofs.YtjggbalhpflbbaaGreat.Nf Go.Proofs.YtjggbalhpflbbaaGreat.Ng Go.Proofs.YtjggbalhpflbbaaGreat.Nr Go.Proofs.YtjggbalhpflbbaaGreat.Qa Go.Proofs.YtjggbalhpflbbaaGreat.Qb Go.Proofs.YtjggbalhpflbbaaGreat.Va Go.Proofs.YtjggbalhpflbbaaGreat.Vb Go.Proofs.YtjggbalhpflbbaaGreat.Vr Go.Proofs.YtjggbalhpflbbaaGreat.Re Go.Proofs.YtjggbalhpflbbaaGreat.Rf Go.Proofs.YtjggbalhpflbbaaGreat.Ad Go.Proofs.YtjggbalhpflbbaaGreat.Er Dg Fp
theorem at_fit {z e : Int} (he : B ≤ e) : fitD z e = fitD (at_ z e) B := by
  unfold at_
  rw [fitD_shift, show B + ((e - B).toNat : Int) = e by omega]
theorem od_bd {x : Nat} (fx : fin Ieee.single x = true) {z' e' : Int} (h : Od (zf x) (Wc.expo x) z' e') : bl z'.natAbs ≤ 24 ∧ -149 ≤ e' ∧ e' ≤ 129 := by
  have h1 := expo_bd fx
  have h2 := zf_bl x
  have h3 := h.bl
  refine ⟨by omega, ?_⟩
  by_cases h0 : zf x = 0
  · have := h.zero h0
    omega
  · obtain ⟨_, _, k, _, h4, h5⟩ := h.pos h0
    omega
theorem fit_od {x : Nat} (fx : fin Ieee.single x = true) {a b z e : Int} (h : Od (zf x) (Wc.expo x) a b) (he : -3000 ≤ e) : fitD (addz a b (-z) e) (adde a b (-z) e) = fitD (dfz x z e) (dfe x z e) := by
  have h1 := expo_bd fx
  have h3 := od_bd fx h
  have hB1 : B ≤ Wc.expo x := by unfold Ad.B; omega
  have hB2 : B ≤ e := by unfold Ad.B; omega
  have hB3 : B ≤ b := by unfold Ad.B; omega
  unfold dfz dfe
  rw [at_fit (adde_lo B hB3 hB2), at_fit (adde_lo B hB1 hB2), add_at hB3 hB2, add_at hB1 hB2, od_at h hB1]
theorem sOd {w : World} {x : Nat} (hx : x < 4294967296) (fx : fin Ieee.single x = true) {a b : Int} (h : Od (zf x) (Wc.expo x) a b) :
    Calls Tryz.prog 16 #[.float .f32 x] w fun en w' => ∃ u, en = .returned (.agg #[.int .i64 (sgn a), u, .int .i64 b]) ∧ Kd.R (Kd.int .i64) 2 w' w.heap.size (fun _ => True) u (L a.natAbs) ∧ Below w.heap.size w w' := by
  have := sl03Of (w := w) x hx fx
  rw [h.dy] at this
  exact this
def spec_ErrorOfRounding.f (_ : Nat) (a0_0 : Int) (l0_1 : List Int) (a0_2 : Int) (a1 : Int) : Option (Int × List Int × Int × Int) := some (erF a0_0 l0_1 a0_2 a1)
theorem fin9 {w W : World} {g b9 : Nat} {s x : Int} {u : Value} {l : List Int} (hg : W.heap[g]? = some (.cells #[.int .i64 0, .slice none 0 0, .int .i64 0] 30 (0, 0))) (h9 : W.heap[b9]? = some (.cells #[.int .i64 0, .slice none 0 0, .int .i64 0] 30 (0, 0))) (hne : g ≠ b9) (hb : Below w.heap.size w W) (h1 : w.heap.size ≤ g) (h2 : w.heap.size ≤ b9) (hR : Kd.R (Kd.int .i64) 2 W w.heap.size (fun _ => True) u l) :
    (((W.setCell ⟨b9, 0, none⟩ (.int .i64 s)).setCell ⟨b9, 1, none⟩ u).setCell ⟨b9, 2, none⟩ (.int .i64 x)).heap[g]? = some (.cells #[.int .i64 0, .slice none 0 0, .int .i64 0] 30 (0, 0)) ∧ Below w.heap.size w (((W.setCell ⟨b9, 0, none⟩ (.int .i64 s)).setCell ⟨b9, 1, none⟩ u).setCell ⟨b9, 2, none⟩ (.int .i64 x)) ∧ Kd.R (Kd.int .i64) 2 (((W.setCell ⟨b9, 0, none⟩ (.int .i64 s)).setCell ⟨b9, 1, none⟩ u).setCell ⟨b9, 2, none⟩ (.int .i64 x)) w.heap.size (fun _ => True) u l :=
  ⟨blk_far (blk_far (blk_far hg (by simpa using hne) _) (by simpa using hne) _) (by simpa using hne) _, ((hb.setCell (p := ⟨b9, 0, none⟩) h2 _).setCell (p := ⟨b9, 1, none⟩) h2 _).setCell (p := ⟨b9, 2, none⟩) h2 _,
    Kd.R_set (Kd.R_set (Kd.R_set hR h9 (by decide) 0 _) (blk_set h9 0 _) (by decide) 1 _) (blk_set (blk_set h9 0 _) 1 _) (by decide) 2 _⟩
set_option maxRecDepth 20000 in
set_option maxHeartbeats 6400000 in
theorem spec_ErrorOfRounding.calls (k : Nat) (a0_0 : Int) (A0_1 : Option Addr) (c0_1 : Nat) (l0_1 : List Int) (a0_2 : Int) (a1 : Int) (r1 : Int) (r2 : List Int) (r3 : Int) (r4 : Int) (w : World) (hr0_1 : Kd.C (Kd.int .i64) w A0_1 l0_1.length l0_1) (hc0_1 : l0_1.length ≤ c0_1) (h : spec_ErrorOfRounding.f k a0_0 l0_1 a0_2 a1 = some (r1, r2, r3, r4)) :
    Calls Tryz.prog 5 #[.agg #[.int .i64 a0_0, .slice A0_1 l0_1.length c0_1, .int .i64 a0_2], .int .i64 a1] w fun e w' => ∃ v1_ : Value, e = .returned (.tuple #[.agg #[.int .i64 r1, v1_, .int .i64 r3], .int .i64 r4]) ∧ Kd.R (Kd.int .i64) 2 w' w.heap.size (fun _ => True) v1_ r2 ∧ Below w.heap.size w w' := by
  unfold spec_ErrorOfRounding.f at h
  obtain ⟨W0, hW0⟩ : ∃ W0, W0 = (w.alloc (.cells #[.int .i64 a0_0, .slice A0_1 l0_1.length c0_1, .int .i64 a0_2] 30)).alloc (.cells #[.int .i64 0, .slice none 0 0, .int .i64 0] 30) := ⟨_, rfl⟩
  obtain ⟨hb0, stay0⟩ := two w a0_0 a0_2 A0_1 l0_1.length c0_1 hW0
  have stay := Lib.hid stay0
  have HI0 := fun (W : World) (hb : Below W0.heap.size W0 W) => cCode (s := a0_0) (e := a0_2) (mode := a1) (C_at (C_at hr0_1 hb0) hb) hc0_1
  have HC0 := Lib.hid (fun (W : World) (hb : Below W0.heap.size W0 W) => C_at (C_at hr0_1 hb0) hb)
  have HW := Lib.hid hW0
  clear hW0 stay0
  rcases er_cases a0_0 l0_1 a0_2 a1 with ⟨x, F, hD, hm, hrd, hxF, hF, fx, hx, her⟩ | ⟨x, hD, hm, hrd, hxF, her⟩ | ⟨k, hk, hrd, her⟩
  · rw [hrd] at HI0
    have HI := Lib.hid HI0
    rw [her] at h
    have h1 := Option.some.inj h
    obtain ⟨e1, e2, e3⟩ := isW_eq (isD_W hD)
    have he := isD_e hD
    obtain ⟨a, b, hod⟩ := od (zf x) (Wc.expo x)
    have hob := od_bd fx hod
    have hsr := fun (W : World) (hb : Below W0.heap.size W0 W) => sroundA (mode := a1) hD hm.1 hm.2 (HC0.out W hb) hc0_1
    rw [← hxF] at hsr
    have HSR := Lib.hid hsr
    have HOF := Lib.hid (fun (W : World) => sOd (w := W) hx fx hod)
    have hng : Ev (fun k => spec_l03Neg.f k (sgn (wv a0_0 l0_1)) (L (wv a0_0 l0_1).natAbs) a0_2) (sgn (-(wv a0_0 l0_1)), L (-(wv a0_0 l0_1)).natAbs, a0_2) := by
      unfold spec_l03Neg.f
      rw [Int.natAbs_neg]
      exact Ev.bind (f := fun k t => _) (Pzs.sneg (wv a0_0 l0_1) (by omega)) (ev_of fun _ => rfl)
    obtain ⟨K0, hK0⟩ := hng.rounds
    obtain ⟨K1, hK1⟩ := (Qc.saddD a (-(wv a0_0 l0_1)) b a0_2 (by omega) (by rw [Int.natAbs_neg]; omega) (by omega) (by omega) (by omega) (by omega)).rounds
    have hbl := addz_bl (x := a) (e := b) (y := -(wv a0_0 l0_1)) (f := a0_2) (a := 2400) (d := 4000) (by omega) (by rw [Int.natAbs_neg]; omega) (by omega) (by omega)
    obtain ⟨K2, hK2⟩ := (sfitD (addz a b (-(wv a0_0 l0_1)) a0_2) (adde a b (-(wv a0_0 l0_1)) a0_2) (by omega)).rounds
    rw [fit_od fx hod he.1, h1] at hK2
    obtain ⟨q1, q2, q3, hq⟩ : ∃ q1 q2 q3, dy (addz a b (-(wv a0_0 l0_1)) a0_2) (adde a b (-(wv a0_0 l0_1)) a0_2) = (q1, q2, q3) := ⟨_, _, _, rfl⟩
    rw [hq] at hK1 hK2
    rw [← e1, ← e2] at hK0
    have HSU := Lib.hid (fun (W : World) (hb : Below W0.heap.size W0 W) (A : Option Addr) (c : Nat) (hA : (Kd.int .i64).C W A (L a.natAbs).length (L a.natAbs)) (hc : (L a.natAbs).length ≤ c) => Hd.handSub3 K0 K1 (sgn a) A c (L a.natAbs) b a0_0 A0_1 c0_1 l0_1 a0_2 _ _ _ _ _ W (by omega) (by omega) (by omega) (by omega) hA hc (HC0.out W hb) hc0_1 hK0 hK1)
    have HFI := Lib.hid (fun (w0 W : World) (u : Value) (hi : Nat) (hB : Below w0.heap.size w0 W) (ho : Kd.R (Kd.int .i64) 2 W w0.heap.size (fun k => w0.heap.size ≤ k ∧ k < hi) u q2) => spec_l03Fit.calls K2 q1 (fun k => w0.heap.size ≤ k ∧ k < hi) u q2 q3 r1 r2 r3 r4 w0 W hB ho hK2)
    have hF4 := and4 hF
    clear h h1 hrd hxF hF her hD hm e1 e2 e3 he hod hob hsr hbl hng hK0 hK1 hK2 hq hr0_1 hc0_1 HI0 hb0 fx hx
    go_enter Tryz.func5, Tryz.ntmps5
    go_upto_region 1 with fail
    rw [← HW.out]
    clear HW
    obtain ⟨⟨c0, c1, c2⟩, ⟨d0, d1, d2, d3, d4, d5⟩, ⟨z0, z1⟩, hx1, hbw⟩ := stay.out W0 (Below.refl _ _)
    clear hx1 hbw
    go_wp2_with fail
    refine (HI.out W0 (Below.refl _ _)).mono ?_
    rintro en w1 ⟨rfl, hb⟩
    clear c0 c1 d0 d1 d2 d3 d4 d5 z0 z1 c2
    obtain ⟨⟨c0, c1, c2⟩, ⟨d0, d1, d2, d3, d4, d5⟩, ⟨z0, z1⟩, hx1, hbw⟩ := stay.out w1 hb
    have HB1 := Lib.hid hb
    clear hx1 hbw hb
    go_wp2_with fail
    refine (HSR.out _ HB1.out).mono ?_
    rintro en w2 ⟨rfl, hb⟩
    have hbb := below_then HB1.out hb
    clear c0 c1 d0 d1 d2 d3 d4 d5 z0 z1 c2
    obtain ⟨⟨c0, c1, c2⟩, ⟨d0, d1, d2, d3, d4, d5⟩, ⟨z0, z1⟩, hx1, hbw⟩ := stay.out w2 hbb
    have HB2 := Lib.hid hbb
    have y2 := z1
    clear hx1 hbw hb hbb
    go_upto_region 7 with fail
    go_region_held3 (fun w' => w'.cell? ⟨w.heap.size, 0, none⟩ = some (.int .i64 a0_0) ∧ w'.cell? ⟨w.heap.size, 1, none⟩ = some (.slice A0_1 l0_1.length c0_1) ∧ w'.cell? ⟨w.heap.size, 2, none⟩ = some (.int .i64 a0_2)) (go_keep)
      (first
        | (go_at_call 16; first
            | (refine (HOF.out _).mono ?_; rintro en w3 ⟨u, rfl, hR, hb⟩; obtain ⟨A, c, rfl⟩ := Kd.R_slice hR; have hX := below_then (Go.Proofs.YtjggbalhpflbbaaGreatW.PrintWords.waq HB2.out.drew _) hb; have hs := (hb.block w2.heap.size (by simp)).trans (newAt _ _); obtain ⟨s0, s1, s2, sf0, sf1, sf2, sl⟩ := cellsD hs; have HS9 := Lib.hid hs; have n9a : w.heap.size + 1 ≠ w2.heap.size := (by omega); have n9b := Ne.symm n9a; have n9c : w.heap.size ≠ w2.heap.size := (by omega); have n9d := Ne.symm n9c; clear hs; obtain ⟨⟨c0, c1, c2⟩, ⟨d0, d1, d2, d3, d4, d5⟩, ⟨z0, z1⟩, hx1, hbw⟩ := stay.out w3 hX; have y3 := z1; have HX3 := Lib.hid hX; have HRR := Lib.hid (Kd.R_reads' hR); clear hR hb hX hx1 hbw)
            | (refine (HOF.out _).mono ?_; rintro en w3 ⟨u, rfl, hR, hb⟩; obtain ⟨A, c, rfl⟩ := Kd.R_slice hR; have hX := below_then (Go.Proofs.YtjggbalhpflbbaaGreatW.PrintWords.waq HB2.out _) hb; have hs := (hb.block w2.heap.size (by simp)).trans (newAt _ _); obtain ⟨s0, s1, s2, sf0, sf1, sf2, sl⟩ := cellsD hs; have HS9 := Lib.hid hs; have n9a : w.heap.size + 1 ≠ w2.heap.size := (by omega); have n9b := Ne.symm n9a; have n9c : w.heap.size ≠ w2.heap.size := (by omega); have n9d := Ne.symm n9c; clear hs; obtain ⟨⟨c0, c1, c2⟩, ⟨d0, d1, d2, d3, d4, d5⟩, ⟨z0, z1⟩, hx1, hbw⟩ := stay.out w3 hX; have y3 := z1; have HX3 := Lib.hid hX; have HRR := Lib.hid (Kd.R_reads' hR); clear hR hb hX hx1 hbw)
            | (refine (HOF.out _).mono ?_; rintro en w3 ⟨u, rfl, hR, hb⟩; obtain ⟨A, c, rfl⟩ := Kd.R_slice hR; have hX := below_then (show Below W0.heap.size W0 _ from HB2.out.drew) hb; obtain ⟨⟨c0, c1, c2⟩, ⟨d0, d1, d2, d3, d4, d5⟩, ⟨z0, z1⟩, hx1, hbw⟩ := stay.out w3 hX; have y3 := z1; have HX3 := Lib.hid hX; have HRR := Lib.hid (Kd.R_reads' hR); clear hR hb hX hx1 hbw)
            | (refine (HOF.out _).mono ?_; rintro en w3 ⟨u, rfl, hR, hb⟩; obtain ⟨A, c, rfl⟩ := Kd.R_slice hR; have hX := below_then (show Below W0.heap.size W0 _ from HB2.out) hb; obtain ⟨⟨c0, c1, c2⟩, ⟨d0, d1, d2, d3, d4, d5⟩, ⟨z0, z1⟩, hx1, hbw⟩ := stay.out w3 hX; have y3 := z1; have HX3 := Lib.hid hX; have HRR := Lib.hid (Kd.R_reads' hR); clear hR hb hX hx1 hbw))
        | (go_at_call 15; first
            | (have sq := sl; refine (HSU.out _ (HX3.out) _ _ (HRR.out.2.2) HRR.out.2.1).mono ?_; rintro en w4 ⟨u4, rfl, hR, hb⟩; have hX := below_then (HX3.out) hb; have hs := (hb.block _ (klq HS9.out)).trans HS9.out; obtain ⟨s0, s1, s2, sf0, sf1, sf2, sl⟩ := cellsD hs; have HS9 := Lib.hid hs; clear hs; obtain ⟨⟨c0, c1, c2⟩, ⟨d0, d1, d2, d3, d4, d5⟩, ⟨z0, z1⟩, hx1, hbw⟩ := stay.out w4 hX; have y4 := z1; obtain ⟨wS, HPK, q9⟩ : ∃ wS : World, Hid (Below W0.heap.size W0 wS ∧ Below wS.heap.size wS w4 ∧ Kd.R (Kd.int .i64) 2 w4 wS.heap.size (fun k => wS.heap.size ≤ k ∧ k < w4.heap.size) u4 q2) ∧ (w.heap.size + 1 < wS.heap.size ∧ w2.heap.size < wS.heap.size) := ⟨w3, Lib.hid ⟨HX3.out, hb, Kd.R_mono (Kd.R_bound hR) (fun k hk => ⟨hk.2.1, hk.2.2.1⟩)⟩, by (try simp); omega⟩; clear hR hb hX hx1 hbw)
            | (refine (HSU.out _ (Go.Proofs.YtjggbalhpflbbaaGreatW.PrintWords.waq HX3.out _) _ _ (Kd.C_alloc HRR.out.2.2 _) HRR.out.2.1).mono ?_; rintro en w4 ⟨u4, rfl, hR, hb⟩; have hX := below_then (Go.Proofs.YtjggbalhpflbbaaGreatW.PrintWords.waq HX3.out _) hb; have hs := (hb.block w3.heap.size (by simp)).trans (newAt _ _); obtain ⟨s0, s1, s2, sf0, sf1, sf2, sl⟩ := cellsD hs; have HS9 := Lib.hid hs; have n9a : w.heap.size + 1 ≠ w3.heap.size := (by omega); have n9b := Ne.symm n9a; have n9c : w.heap.size ≠ w3.heap.size := (by omega); have n9d := Ne.symm n9c; clear hs; obtain ⟨⟨c0, c1, c2⟩, ⟨d0, d1, d2, d3, d4, d5⟩, ⟨z0, z1⟩, hx1, hbw⟩ := stay.out w4 hX; have y4 := z1; obtain ⟨wS, HPK, q9⟩ : ∃ wS : World, Hid (Below W0.heap.size W0 wS ∧ Below wS.heap.size wS w4 ∧ Kd.R (Kd.int .i64) 2 w4 wS.heap.size (fun k => wS.heap.size ≤ k ∧ k < w4.heap.size) u4 q2) ∧ (w.heap.size + 1 < wS.heap.size ∧ w3.heap.size < wS.heap.size) := ⟨w3.alloc (.cells #[.int .i64 0, .slice none 0 0, .int .i64 0] 30), Lib.hid ⟨Go.Proofs.YtjggbalhpflbbaaGreatW.PrintWords.waq HX3.out _, hb, Kd.R_mono (Kd.R_bound hR) (fun k hk => ⟨hk.2.1, hk.2.2.1⟩)⟩, by (try simp); omega⟩; clear hR hb hX hx1 hbw)
            | (refine (HSU.out _ (HX3.out) _ _ (HRR.out.2.2) HRR.out.2.1).mono ?_; rintro en w4 ⟨u4, rfl, hR, hb⟩; have hX := below_then (HX3.out) hb; obtain ⟨⟨c0, c1, c2⟩, ⟨d0, d1, d2, d3, d4, d5⟩, ⟨z0, z1⟩, hx1, hbw⟩ := stay.out w4 hX; have y4 := z1; obtain ⟨wS, HPK, q9⟩ : ∃ wS : World, Hid (Below W0.heap.size W0 wS ∧ Below wS.heap.size wS w4 ∧ Kd.R (Kd.int .i64) 2 w4 wS.heap.size (fun k => wS.heap.size ≤ k ∧ k < w4.heap.size) u4 q2) ∧ (w.heap.size + 1 < wS.heap.size ∧ True) := ⟨w3, Lib.hid ⟨HX3.out, hb, Kd.R_mono (Kd.R_bound hR) (fun k hk => ⟨hk.2.1, hk.2.2.1⟩)⟩, by (try simp); omega⟩; clear hR hb hX hx1 hbw))
        | (go_at_call 14; first
            | (refine (HFI.out wS _ u4 w4.heap.size (HPK.out.2.1) (HPK.out.2.2)).mono ?_; rintro en w5 ⟨u5, rfl, hR, hb, hk⟩; obtain ⟨A5, c5, rfl⟩ := Kd.R_slice hR; have hX := below_then HPK.out.1 hb; have HR5 := Lib.hid (Kd.R_lower (base' := w.heap.size) (Kd.R_mono hR (fun _ _ => trivial)) (by omega)); have hs := (hk.2 _ (klq HS9.out) (fun h => absurd h.1 (by omega))).trans HS9.out; obtain ⟨s0, s1, s2, sf0, sf1, sf2, sl⟩ := cellsD hs; have HS9 := Lib.hid hs; clear hs; obtain ⟨⟨c0, c1, c2⟩, ⟨d0, d1, d2, d3, d4, d5⟩, ⟨z0, z1⟩, hx1, hbw⟩ := stay.out w5 hX; have y5 := z1; have HX5 := Lib.hid hx1; have HB5 := Lib.hid hbw; clear hR hb hX hx1 hbw hk)
            | (refine (HFI.out wS _ u4 w4.heap.size (Go.Proofs.YtjggbalhpflbbaaGreatW.PrintWords.waq HPK.out.2.1 _) (Kd.R_alloc HPK.out.2.2 _)).mono ?_; rintro en w5 ⟨u5, rfl, hR, hb, hk⟩; obtain ⟨A5, c5, rfl⟩ := Kd.R_slice hR; have hX := below_then HPK.out.1 hb; have HR5 := Lib.hid (Kd.R_lower (base' := w.heap.size) (Kd.R_mono hR (fun _ _ => trivial)) (by omega)); have hs := (hk.2 w4.heap.size (by simp) (fun h => absurd h.2 (by omega))).trans (newAt _ _); obtain ⟨s0, s1, s2, sf0, sf1, sf2, sl⟩ := cellsD hs; have HS9 := Lib.hid hs; have n9a : w.heap.size + 1 ≠ w4.heap.size := (by omega); have n9b := Ne.symm n9a; have n9c : w.heap.size ≠ w4.heap.size := (by omega); have n9d := Ne.symm n9c; clear hs; obtain ⟨⟨c0, c1, c2⟩, ⟨d0, d1, d2, d3, d4, d5⟩, ⟨z0, z1⟩, hx1, hbw⟩ := stay.out w5 hX; have y5 := z1; have HX5 := Lib.hid hx1; have HB5 := Lib.hid hbw; clear hR hb hX hx1 hbw hk)
            | (refine (HFI.out wS _ u4 w4.heap.size (HPK.out.2.1) (HPK.out.2.2)).mono ?_; rintro en w5 ⟨u5, rfl, hR, hb, hk⟩; obtain ⟨A5, c5, rfl⟩ := Kd.R_slice hR; have hX := below_then HPK.out.1 hb; have HR5 := Lib.hid (Kd.R_lower (base' := w.heap.size) (Kd.R_mono hR (fun _ _ => trivial)) (by omega)); obtain ⟨⟨c0, c1, c2⟩, ⟨d0, d1, d2, d3, d4, d5⟩, ⟨z0, z1⟩, hx1, hbw⟩ := stay.out w5 hX; have y5 := z1; have HX5 := Lib.hid hx1; have HB5 := Lib.hid hbw; clear hR hb hX hx1 hbw hk)))
    all_goals go_wp2
    all_goals first
      | (have hA := fin9 (s := r1) (x := r3) HX5.out HS9.out (by omega) HB5.out (by omega) (by omega) HR5.out
         have hst := storedD (s := r1) (x := r3) (u := .slice A5 r2.length c5) hA.1 hA.2.1 (by omega) hA.2.2
         exact bodyPost_ret (results_ct rfl _ _ (w.heap.size + 1) 30 #[.int .i64 r1, .slice A5 r2.length c5, .int .i64 r3] (0, 0) _ rfl hst.1 Tryz.underlying30 rfl sizeD) rfl ⟨_, rfl, hst.2.1, hst.2.2⟩)
      | (have hst := storedDA (s := r1) (x := r3) (u := .slice A5 r2.length c5) (.cells #[.int .i64 r1, .slice A5 r2.length c5, .int .i64 r3] 30) HX5.out HB5.out (by omega) HR5.out
         exact bodyPost_ret (results_ct rfl _ _ (w.heap.size + 1) 30 #[.int .i64 r1, .slice A5 r2.length c5, .int .i64 r3] (0, 0) _ rfl hst.1 Tryz.underlying30 rfl sizeD) rfl ⟨_, rfl, hst.2.1, hst.2.2⟩)
  · rw [hrd] at HI0
    have HI := Lib.hid HI0
    rw [her] at h
    obtain ⟨rfl, h2⟩ := Prod.mk.inj (Option.some.inj h)
    obtain ⟨rfl, h3⟩ := Prod.mk.inj h2
    obtain ⟨rfl, rfl⟩ := Prod.mk.inj h3
    have hsr := fun (W : World) (hb : Below W0.heap.size W0 W) => sroundA (mode := a1) hD hm.1 hm.2 (HC0.out W hb) hc0_1
    rw [← hxF] at hsr
    have HSR := Lib.hid hsr
    have hF4 := and4'
    clear h h2 h3 hrd hxF her hD hm hsr hr0_1 hc0_1 HI0 hb0 HC0
    go_enter Tryz.func5, Tryz.ntmps5
    go_upto_region 1 with fail
    rw [← HW.out]
    clear HW
    obtain ⟨⟨c0, c1, c2⟩, ⟨d0, d1, d2, d3, d4, d5⟩, ⟨z0, z1⟩, hx1, hbw⟩ := stay.out W0 (Below.refl _ _)
    clear hx1 hbw
    go_wp2_with fail
    refine (HI.out W0 (Below.refl _ _)).mono ?_
    rintro en w1 ⟨rfl, hb⟩
    clear c0 c1 d0 d1 d2 d3 d4 d5 z0 z1 c2
    obtain ⟨⟨c0, c1, c2⟩, ⟨d0, d1, d2, d3, d4, d5⟩, ⟨z0, z1⟩, hx1, hbw⟩ := stay.out w1 hb
    have HB1 := Lib.hid hb
    clear hx1 hbw hb
    go_wp2_with fail
    refine (HSR.out _ HB1.out).mono ?_
    rintro en w2 ⟨rfl, hb⟩
    have hbb := below_then HB1.out hb
    clear c0 c1 d0 d1 d2 d3 d4 d5 z0 z1 c2
    obtain ⟨⟨c0, c1, c2⟩, ⟨d0, d1, d2, d3, d4, d5⟩, ⟨z0, z1⟩, hx1, hbw⟩ := stay.out w2 hbb
    have HX := Lib.hid hx1
    have HB := Lib.hid hbw
    clear hx1 hbw hb hbb
    go_wp2
    have hst := storedD (s := 0) (x := 0) (u := .slice none 0 0) HX.out HB.out (by omega) (Kd.R_nil _ _ _ _ _)
    exact bodyPost_ret (results_ct rfl _ _ (w.heap.size + 1) 30 #[.int .i64 0, .slice none 0 0, .int .i64 0] (0, 0) _ rfl hst.1 Tryz.underlying30 rfl sizeD) rfl ⟨_, rfl, hst.2.1, hst.2.2⟩
  · rw [hrd] at HI0
    have HI := Lib.hid HI0
    rw [her] at h
    obtain ⟨rfl, h2⟩ := Prod.mk.inj (Option.some.inj h)
    obtain ⟨rfl, h3⟩ := Prod.mk.inj h2
    obtain ⟨rfl, rfl⟩ := Prod.mk.inj h3
    clear h h2 h3 hrd her hr0_1 hc0_1 HI0 hb0 HC0
    rcases hk with rfl | rfl
    all_goals
      go_enter Tryz.func5, Tryz.ntmps5
      go_upto_region 1 with fail
      rw [← HW.out]
      clear HW
      obtain ⟨⟨c0, c1, c2⟩, ⟨d0, d1, d2, d3, d4, d5⟩, ⟨z0, z1⟩, hx1, hbw⟩ := stay.out W0 (Below.refl _ _)
      clear hx1 hbw
      go_wp2_with fail
      refine (HI.out W0 (Below.refl _ _)).mono ?_
      rintro en w1 ⟨rfl, hb⟩
      clear c0 c1 d0 d1 d2 d3 d4 d5 z0 z1 c2
      obtain ⟨⟨c0, c1, c2⟩, ⟨d0, d1, d2, d3, d4, d5⟩, ⟨z0, z1⟩, hx1, hbw⟩ := stay.out w1 hb
      have HX := Lib.hid hx1
      have HB := Lib.hid hbw
      clear hx1 hbw hb
      go_wp2
      have hst := storedD (s := 0) (x := 0) (u := .slice none 0 0) HX.out HB.out (by omega) (Kd.R_nil _ _ _ _ _)
      exact bodyPost_ret (results_ct rfl _ _ (w.heap.size + 1) 30 #[.int .i64 0, .slice none 0 0, .int .i64 0] (0, 0) _ rfl hst.1 Tryz.underlying30 rfl sizeD) rfl ⟨_, rfl, hst.2.1, hst.2.2⟩
end Go.Proofs.YtjggbalhpflbbaaGreat.Es
end
section
set_option linter.unusedVariables false
set_option linter.unusedSimpArgs false
namespace Go.Proofs.YtjggbalhpflbbaaGreat.KErrorOfRounding
open Go.RowKit Go.Proofs.YtjggbalhpflbbaaGreat.Er Go.Proofs.YtjggbalhpflbbaaGreat.Es Go.Proofs.YtjggbalhpflbbaaGreatW.PrintWords Go.Proofs.YtjggbalhpflbbaaGreatW.PrintLast Go.Proofs.YtjggbalhpflbbaaGreatW.PrintMore Go.Proofs.YtjggbalhpflbbaaGreat.PW Go.Proofs.YtjggbalhpflbbaaGreat.Pc Go.Proofs.YtjggbalhpflbbaaGreat.Ln
set_option maxHeartbeats 800000 in
theorem early0 (s0 : Int) (A0 : Option Addr) (c0 : Nat) (l0 : List Int) (e0 : Int) (a0 : Int) (n0 : Int) (w : World)
    (hr0 : Kd.C (Kd.int .i64) w A0 l0.length l0) (hc0 : l0.length ≤ c0) (hz0 : laws_szDyadic.f s0 l0 e0 1048576 = some n0) (pz0 : n0 < 0) :
    Calls Tryz.prog 3 #[.agg #[.int .i64 s0, .slice A0 l0.length c0, .int .i64 e0], .int .i64 a0] w fun e w' => e = .returned (.bool true) ∧ Below w.heap.size w w' := by
  have Z0 := Lib.hid (fun (W : World) (hb : Below w.heap.size w W) => laws_szDyadic.calls s0 A0 c0 l0 e0 1048576 n0 W (Kd.C_below hr0 hb) hc0 hz0)
  have HM : Hid (Mem w (w.alloc (.cells #[.int .i64 s0, .slice A0 l0.length c0, .int .i64 e0] 26)) [.box w.heap.size 26 #[.int .i64 s0, .slice A0 l0.length c0, .int .i64 e0]]) := Lib.hid ((Mem.nil w).box 26 #[.int .i64 s0, .slice A0 l0.length c0, .int .i64 e0])
  clear hr0 hc0 hz0
  go_enter Tryz.func3, Tryz.ntmps3
  go_wp2_with fail
  refine (Z0.out _ HM.out.1).mono ?_
  rintro e W1 ⟨rfl, hb⟩
  have HM1 := Lib.hid (HM.out.below hb)
  clear hb HM
  go_wp2
  go_ret
  exact ⟨rfl, HM1.out.1⟩
set_option maxHeartbeats 3200000 in
set_option maxRecDepth 20000 in
theorem path (k : Nat) (s0 : Int) (A0 : Option Addr) (c0 : Nat) (l0 : List Int) (e0 : Int) (a0 : Int) (g : Int) (gl : List Int) (ge : Int) (cd : Int) (n0 m0 mg : Int) (k0 kg : List Int) (w : World)
    (hr0 : Kd.C (Kd.int .i64) w A0 l0.length l0) (hc0 : l0.length ≤ c0)
    (hz0 : laws_szDyadic.f s0 l0 e0 1048576 = some n0) (pz0 : 0 ≤ n0)
    (ht0 : laws_toDyadic.f k s0 l0 e0 = some (s0, l0, e0))
    (hsp : spec_ErrorOfRounding.f k s0 l0 e0 a0 = some (g, gl, ge, cd)) (him : impl_ErrorOfRounding.f s0 l0 e0 a0 = some (g, gl, ge, cd))
    (heg : laws_eqDyadic.f k g gl ge g gl ge = some true) (he0 : laws_eqDyadic.f k s0 l0 e0 s0 l0 e0 = some true)
    (hm0 : laws_markDyadic.f k s0 l0 e0 1 = some (m0, k0)) (pm : 0 ≤ m0)
    (hmg : laws_markDyadic.f k g gl ge 1 = some (mg, kg)) (hhg : laws_heldDyadic.f k g kg ge 1 = some mg) (pmg : 0 ≤ mg) :
    Calls Tryz.prog 3 #[.agg #[.int .i64 s0, .slice A0 l0.length c0, .int .i64 e0], .int .i64 a0] w fun e w' => e = .returned (.bool true) ∧ Below w.heap.size w w' := by
  have Z0 := Lib.hid (fun (W : World) (hb : Below w.heap.size w W) => laws_szDyadic.calls s0 A0 c0 l0 e0 1048576 n0 W (Kd.C_below hr0 hb) hc0 hz0)
  have T0 := Lib.hid (fun (W : World) (hb : Below w.heap.size w W) => laws_toDyadic.calls k s0 A0 c0 l0 e0 s0 l0 e0 W (Kd.C_below hr0 hb) hc0 ht0)
  have SP := Lib.hid (fun (W : World) (B0 : Option Addr) (d0 : Nat) (h0 : Kd.C (Kd.int .i64) W B0 l0.length l0) (x0 : l0.length ≤ d0) => spec_ErrorOfRounding.calls k s0 B0 d0 l0 e0 a0 g gl ge cd W h0 x0 hsp)
  have IM := Lib.hid (fun (W : World) (B0 : Option Addr) (d0 : Nat) (h0 : Kd.C (Kd.int .i64) W B0 l0.length l0) (x0 : l0.length ≤ d0) => impl_ErrorOfRounding.calls s0 B0 d0 l0 e0 a0 g gl ge cd W h0 x0 him)
  have EG := Lib.hid (fun (W : World) (A : Option Addr) (c : Nat) (B : Option Addr) (d : Nat) (h0 : Kd.C (Kd.int .i64) W A gl.length gl) (hc : gl.length ≤ c) (h1 : Kd.C (Kd.int .i64) W B gl.length gl) (hd : gl.length ≤ d) => laws_eqDyadic.calls k g A c gl ge g B d gl ge true W h0 hc h1 hd heg)
  have E0 := Lib.hid (fun (W : World) (A : Option Addr) (c : Nat) (B : Option Addr) (d : Nat) (h0 : Kd.C (Kd.int .i64) W A l0.length l0) (hc : l0.length ≤ c) (h1 : Kd.C (Kd.int .i64) W B l0.length l0) (hd : l0.length ≤ d) => laws_eqDyadic.calls k s0 A c l0 e0 s0 B d l0 e0 true W h0 hc h1 hd he0)
  have M0 := Lib.hid (fun (W : World) (P : Nat → Prop) (u : Value) (hB : Below w.heap.size w W) (ho : Kd.R (Kd.int .i64) 2 W w.heap.size P u l0) => laws_markDyadic.calls k s0 P u l0 e0 1 m0 k0 w W hB ho hm0)
  have MG := Lib.hid (fun (W : World) (P : Nat → Prop) (u : Value) (hB : Below w.heap.size w W) (ho : Kd.R (Kd.int .i64) 2 W w.heap.size P u gl) => laws_markDyadic.calls k g P u gl ge 1 mg kg w W hB ho hmg)
  have HG := Lib.hid (fun (W : World) (A : Option Addr) (n c : Nat) (hn : n = kg.length) (h0 : Kd.C (Kd.int .i64) W A kg.length kg) (hc : kg.length ≤ c) => hn ▸ laws_heldDyadic.calls k g A c kg ge 1 mg W h0 hc hhg)
  have HM : Hid (Mem w (w.alloc (.cells #[.int .i64 s0, .slice A0 l0.length c0, .int .i64 e0] 26)) [.box w.heap.size 26 #[.int .i64 s0, .slice A0 l0.length c0, .int .i64 e0]]) := Lib.hid ((Mem.nil w).box 26 #[.int .i64 s0, .slice A0 l0.length c0, .int .i64 e0])
  clear hr0 hc0 hz0 ht0 hsp him heg he0 hm0 hmg hhg
  go_enter Tryz.func3, Tryz.ntmps3
  go_wp2_with fail
  generalize hW0 : (w.alloc (.cells #[.int .i64 s0, .slice A0 l0.length c0, .int .i64 e0] 26)) = W0 at HM ⊢
  clear hW0
  generalize hB1 : w.heap.size = b0 at HM ⊢
  refine (Z0.out _ HM.out.1).mono ?_
  rintro e W11 ⟨rfl, hb⟩
  have HM11 := Lib.hid (Mem.below HM.out hb)
  clear hb HM
  obtain ⟨cb0a, cb0b, cb0e, cb0c⟩ := HM11.out.cells3 (.head _)
  go_wp2_with fail
  refine (T0.out _ HM11.out.1).mono ?_
  rintro e W12 ⟨u12, rfl, hR, hb⟩
  obtain ⟨A12, d12, rfl⟩ := Kd.R_slice hR
  have HM12 := Lib.hid (Mem.row HM11.out hR hb)
  clear hR hb HM11
  clear cb0a cb0b cb0e cb0c
  obtain ⟨cb0a, cb0b, cb0e, cb0c⟩ := HM12.out.cells3 (.tail _ (.head _))
  go_wp2_with fail
  refine (SP.out _ _ _ (HM12.out.reads (.head _)).1 (HM12.out.reads (.head _)).2).mono ?_
  rintro e W13 ⟨u13, rfl, hR, hb⟩
  obtain ⟨A13, d13, rfl⟩ := Kd.R_slice hR
  have HM13 := Lib.hid (Mem.row HM12.out hR hb)
  clear hR hb HM12
  clear cb0a cb0b cb0e cb0c
  obtain ⟨cb0a, cb0b, cb0e, cb0c⟩ := HM13.out.cells3 (.tail _ (.tail _ (.head _)))
  go_wp2_with fail
  have HM14 := Lib.hid (Mem.box HM13.out 30 #[.int .i64 g, .slice A13 gl.length d13, .int .i64 ge])
  clear HM13
  generalize hW : W13.alloc (.cells #[.int .i64 g, .slice A13 gl.length d13, .int .i64 ge] 30) = W14 at HM14 ⊢
  clear hW
  generalize hb : W13.heap.size = b14 at HM14 ⊢
  refine (T0.out _ HM14.out.1).mono ?_
  rintro e W15 ⟨u15, rfl, hR, hb⟩
  obtain ⟨A15, d15, rfl⟩ := Kd.R_slice hR
  have HM15 := Lib.hid (Mem.row HM14.out hR hb)
  clear hR hb HM14
  clear cb0a cb0b cb0e cb0c
  obtain ⟨cb14a, cb14b, cb14e, cb14c⟩ := HM15.out.cells3 (.tail _ (.head _))
  obtain ⟨cb0a, cb0b, cb0e, cb0c⟩ := HM15.out.cells3 (.tail _ (.tail _ (.tail _ (.tail _ (.head _)))))
  go_wp2_with fail
  have HM16 := Lib.hid (Mem.box HM15.out 30 #[.int .i64 s0, .slice A15 l0.length d15, .int .i64 e0])
  clear HM15
  generalize hW : W15.alloc (.cells #[.int .i64 s0, .slice A15 l0.length d15, .int .i64 e0] 30) = W16 at HM16 ⊢
  clear hW
  generalize hb : W15.heap.size = b16 at HM16 ⊢
  refine (IM.out _ _ _ (HM16.out.reads (.tail _ (.head _))).1 (HM16.out.reads (.tail _ (.head _))).2).mono ?_
  rintro e W17 ⟨u17, rfl, hR, hb⟩
  obtain ⟨A17, d17, rfl⟩ := Kd.R_slice hR
  have HM17 := Lib.hid (Mem.row HM16.out hR hb)
  clear hR hb HM16
  clear cb14a cb14b cb14e cb14c cb0a cb0b cb0e cb0c
  obtain ⟨cb16a, cb16b, cb16e, cb16c⟩ := HM17.out.cells3 (.tail _ (.head _))
  obtain ⟨cb14a, cb14b, cb14e, cb14c⟩ := HM17.out.cells3 (.tail _ (.tail _ (.tail _ (.head _))))
  obtain ⟨cb0a, cb0b, cb0e, cb0c⟩ := HM17.out.cells3 (.tail _ (.tail _ (.tail _ (.tail _ (.tail _ (.tail _ (.head _)))))))
  go_wp2_with fail
  have HM18 := Lib.hid (Mem.box HM17.out 30 #[.int .i64 g, .slice A17 gl.length d17, .int .i64 ge])
  clear HM17
  generalize hW : W17.alloc (.cells #[.int .i64 g, .slice A17 gl.length d17, .int .i64 ge] 30) = W18 at HM18 ⊢
  clear hW
  generalize hb : W17.heap.size = b18 at HM18 ⊢
  refine (EG.out _ _ _ _ _ (HM18.out.reads (.tail _ (.head _))).1 (HM18.out.reads (.tail _ (.head _))).2 (HM18.out.reads (.tail _ (.tail _ (.tail _ (.tail _ (.tail _ (.head _))))))).1 (HM18.out.reads (.tail _ (.tail _ (.tail _ (.tail _ (.tail _ (.head _))))))).2).mono ?_
  rintro e W19 ⟨rfl, hb⟩
  have HM19 := Lib.hid (Mem.below HM18.out hb)
  clear hb HM18
  clear cb16a cb16b cb16e cb16c cb14a cb14b cb14e cb14c cb0a cb0b cb0e cb0c
  obtain ⟨cb18a, cb18b, cb18e, cb18c⟩ := HM19.out.cells3 (.head _)
  obtain ⟨cb16a, cb16b, cb16e, cb16c⟩ := HM19.out.cells3 (.tail _ (.tail _ (.head _)))
  obtain ⟨cb14a, cb14b, cb14e, cb14c⟩ := HM19.out.cells3 (.tail _ (.tail _ (.tail _ (.tail _ (.head _)))))
  obtain ⟨cb0a, cb0b, cb0e, cb0c⟩ := HM19.out.cells3 (.tail _ (.tail _ (.tail _ (.tail _ (.tail _ (.tail _ (.tail _ (.head _))))))))
  go_wp2_with fail
  have TX := T0
  go_region_held3 (fun w' => w'.cell? ⟨b16, 0, none⟩ = some (.int .i64 s0) ∧ w'.cell? ⟨b16, 1, none⟩ = some (.slice A15 l0.length d15) ∧ w'.cell? ⟨b16, 2, none⟩ = some (.int .i64 e0) ∧ w'.cell? ⟨b0, 0, none⟩ = some (.int .i64 s0) ∧ w'.cell? ⟨b0, 1, none⟩ = some (.slice A0 l0.length c0) ∧ w'.cell? ⟨b0, 2, none⟩ = some (.int .i64 e0)) (go_keep)
    (first
      | (go_at_call 6; refine (TX.out _ (Mem.drew HM19.out).1).mono ?_; rintro e W20 ⟨u20, rfl, hR, hb⟩; obtain ⟨A20, d20, rfl⟩ := Kd.R_slice hR; have HM20 := Lib.hid (Mem.row (Mem.drew HM19.out) hR hb); obtain ⟨cb18a, cb18b, cb18e, cb18c⟩ := HM20.out.cells3 (.tail _ (.head _)); obtain ⟨cb16a, cb16b, cb16e, cb16c⟩ := HM20.out.cells3 (.tail _ (.tail _ (.tail _ (.head _)))); obtain ⟨cb14a, cb14b, cb14e, cb14c⟩ := HM20.out.cells3 (.tail _ (.tail _ (.tail _ (.tail _ (.tail _ (.head _)))))); obtain ⟨cb0a, cb0b, cb0e, cb0c⟩ := HM20.out.cells3 (.tail _ (.tail _ (.tail _ (.tail _ (.tail _ (.tail _ (.tail _ (.tail _ (.head _))))))))); clear hR hb TX)
      | (go_at_call 8; refine (E0.out _ _ _ _ _ (HM20.out.reads (.tail _ (.tail _ (.tail _ (.tail _ (.head _)))))).1 (HM20.out.reads (.tail _ (.tail _ (.tail _ (.tail _ (.head _)))))).2 (HM20.out.reads (.head _)).1 (HM20.out.reads (.head _)).2).mono ?_; rintro e W21 ⟨rfl, hb⟩; have HM21 := Lib.hid (Mem.below HM20.out hb).tail; obtain ⟨cb18a, cb18b, cb18e, cb18c⟩ := HM21.out.cells3 (.head _); obtain ⟨cb16a, cb16b, cb16e, cb16c⟩ := HM21.out.cells3 (.tail _ (.tail _ (.head _))); obtain ⟨cb14a, cb14b, cb14e, cb14c⟩ := HM21.out.cells3 (.tail _ (.tail _ (.tail _ (.tail _ (.head _))))); obtain ⟨cb0a, cb0b, cb0e, cb0c⟩ := HM21.out.cells3 (.tail _ (.tail _ (.tail _ (.tail _ (.tail _ (.tail _ (.tail _ (.head _)))))))); clear hb))
  go_wp2_with fail
  clear HM19 HM20
  refine (M0.out _ _ _ HM21.out.1 (HM21.out.own (.tail _ (.tail _ (.tail _ (.head _)))))).mono ?_
  rintro e W22 ⟨rfl, hR, hB, hk⟩
  have HM22 := Lib.hid (Mem.mark (bf := [_, _, _]) HM21.out hR hB hk)
  clear hR hB hk HM21
  clear cb18a cb18b cb18e cb18c cb16a cb16b cb16e cb16c cb14a cb14b cb14e cb14c cb0a cb0b cb0e cb0c
  obtain ⟨cb18a, cb18b, cb18e, cb18c⟩ := HM22.out.cells3 (.head _)
  obtain ⟨cb16a, cb16b, cb16e, cb16c⟩ := HM22.out.cells3 (.tail _ (.tail _ (.head _)))
  obtain ⟨cb14a, cb14b, cb14e, cb14c⟩ := HM22.out.cells3 (.tail _ (.tail _ (.tail _ (.tail _ (.head _)))))
  obtain ⟨cb0a, cb0b, cb0e, cb0c⟩ := HM22.out.cells3 (.tail _ (.tail _ (.tail _ (.tail _ (.tail _ (.tail _ (.tail _ (.head _))))))))
  go_wp2_with fail
  refine (EG.out _ _ _ _ _ (HM22.out.reads (.tail _ (.head _))).1 (HM22.out.reads (.tail _ (.head _))).2 (HM22.out.reads (.tail _ (.tail _ (.tail _ (.tail _ (.tail _ (.head _))))))).1 (HM22.out.reads (.tail _ (.tail _ (.tail _ (.tail _ (.tail _ (.head _))))))).2).mono ?_
  rintro e W23 ⟨rfl, hb⟩
  have HM23 := Lib.hid (Mem.below HM22.out hb)
  clear hb HM22
  clear cb18a cb18b cb18e cb18c cb16a cb16b cb16e cb16c cb14a cb14b cb14e cb14c cb0a cb0b cb0e cb0c
  obtain ⟨cb18a, cb18b, cb18e, cb18c⟩ := HM23.out.cells3 (.head _)
  obtain ⟨cb16a, cb16b, cb16e, cb16c⟩ := HM23.out.cells3 (.tail _ (.tail _ (.head _)))
  obtain ⟨cb14a, cb14b, cb14e, cb14c⟩ := HM23.out.cells3 (.tail _ (.tail _ (.tail _ (.tail _ (.head _)))))
  obtain ⟨cb0a, cb0b, cb0e, cb0c⟩ := HM23.out.cells3 (.tail _ (.tail _ (.tail _ (.tail _ (.tail _ (.tail _ (.tail _ (.head _))))))))
  go_wp2_with fail
  refine (MG.out _ _ _ HM23.out.1 (HM23.out.own (.tail _ (.head _)))).mono ?_
  rintro e W24 ⟨rfl, hR, hB, hk⟩
  have HM24 := Lib.hid (Mem.mark (bf := [_]) HM23.out hR hB hk)
  clear hR hB hk HM23
  clear cb18a cb18b cb18e cb18c cb16a cb16b cb16e cb16c cb14a cb14b cb14e cb14c cb0a cb0b cb0e cb0c
  obtain ⟨cb18a, cb18b, cb18e, cb18c⟩ := HM24.out.cells3 (.head _)
  obtain ⟨cb16a, cb16b, cb16e, cb16c⟩ := HM24.out.cells3 (.tail _ (.tail _ (.head _)))
  obtain ⟨cb14a, cb14b, cb14e, cb14c⟩ := HM24.out.cells3 (.tail _ (.tail _ (.tail _ (.tail _ (.head _)))))
  obtain ⟨cb0a, cb0b, cb0e, cb0c⟩ := HM24.out.cells3 (.tail _ (.tail _ (.tail _ (.tail _ (.tail _ (.tail _ (.tail _ (.head _))))))))
  go_wp2_with fail
  refine (HG.out _ _ _ _ (HM24.out.len (.tail _ (.head _))) (HM24.out.reads (.tail _ (.head _))).1 (HM24.out.reads (.tail _ (.head _))).2).mono ?_
  rintro e W25 ⟨rfl, hb⟩
  have HM25 := Lib.hid (Mem.below HM24.out hb)
  clear hb HM24
  clear cb18a cb18b cb18e cb18c cb16a cb16b cb16e cb16c cb14a cb14b cb14e cb14c cb0a cb0b cb0e cb0c
  obtain ⟨cb18a, cb18b, cb18e, cb18c⟩ := HM25.out.cells3 (.head _)
  obtain ⟨cb16a, cb16b, cb16e, cb16c⟩ := HM25.out.cells3 (.tail _ (.tail _ (.head _)))
  obtain ⟨cb14a, cb14b, cb14e, cb14c⟩ := HM25.out.cells3 (.tail _ (.tail _ (.tail _ (.tail _ (.head _)))))
  obtain ⟨cb0a, cb0b, cb0e, cb0c⟩ := HM25.out.cells3 (.tail _ (.tail _ (.tail _ (.tail _ (.tail _ (.tail _ (.tail _ (.head _))))))))
  go_wp2_with fail
  refine (T0.out _ HM25.out.1).mono ?_
  rintro e W26 ⟨u26, rfl, hR, hb⟩
  obtain ⟨A26, d26, rfl⟩ := Kd.R_slice hR
  have HM26 := Lib.hid (Mem.row HM25.out hR hb)
  clear hR hb HM25
  clear cb18a cb18b cb18e cb18c cb16a cb16b cb16e cb16c cb14a cb14b cb14e cb14c cb0a cb0b cb0e cb0c
  obtain ⟨cb18a, cb18b, cb18e, cb18c⟩ := HM26.out.cells3 (.tail _ (.head _))
  obtain ⟨cb16a, cb16b, cb16e, cb16c⟩ := HM26.out.cells3 (.tail _ (.tail _ (.tail _ (.head _))))
  obtain ⟨cb14a, cb14b, cb14e, cb14c⟩ := HM26.out.cells3 (.tail _ (.tail _ (.tail _ (.tail _ (.tail _ (.head _))))))
  obtain ⟨cb0a, cb0b, cb0e, cb0c⟩ := HM26.out.cells3 (.tail _ (.tail _ (.tail _ (.tail _ (.tail _ (.tail _ (.tail _ (.tail _ (.head _)))))))))
  go_wp2_with fail
  refine (IM.out _ _ _ (HM26.out.reads (.head _)).1 (HM26.out.reads (.head _)).2).mono ?_
  rintro e W27 ⟨u27, rfl, hR, hb⟩
  obtain ⟨A27, d27, rfl⟩ := Kd.R_slice hR
  have HM27 := Lib.hid (Mem.row HM26.out hR hb)
  clear hR hb HM26
  clear cb18a cb18b cb18e cb18c cb16a cb16b cb16e cb16c cb14a cb14b cb14e cb14c cb0a cb0b cb0e cb0c
  obtain ⟨cb18a, cb18b, cb18e, cb18c⟩ := HM27.out.cells3 (.tail _ (.tail _ (.head _)))
  obtain ⟨cb16a, cb16b, cb16e, cb16c⟩ := HM27.out.cells3 (.tail _ (.tail _ (.tail _ (.tail _ (.head _)))))
  obtain ⟨cb14a, cb14b, cb14e, cb14c⟩ := HM27.out.cells3 (.tail _ (.tail _ (.tail _ (.tail _ (.tail _ (.tail _ (.head _)))))))
  obtain ⟨cb0a, cb0b, cb0e, cb0c⟩ := HM27.out.cells3 (.tail _ (.tail _ (.tail _ (.tail _ (.tail _ (.tail _ (.tail _ (.tail _ (.tail _ (.head _))))))))))
  go_wp2_with fail
  have HM28 := Lib.hid (Mem.box HM27.out 30 #[.int .i64 g, .slice A27 gl.length d27, .int .i64 ge])
  clear HM27
  generalize hW : W27.alloc (.cells #[.int .i64 g, .slice A27 gl.length d27, .int .i64 ge] 30) = W28 at HM28 ⊢
  clear hW
  generalize hb : W27.heap.size = b28 at HM28 ⊢
  refine (EG.out _ _ _ _ _ (HM28.out.reads (.tail _ (.head _))).1 (HM28.out.reads (.tail _ (.head _))).2 (HM28.out.reads (.tail _ (.tail _ (.tail _ (.tail _ (.tail _ (.tail _ (.tail _ (.tail _ (.head _)))))))))).1 (HM28.out.reads (.tail _ (.tail _ (.tail _ (.tail _ (.tail _ (.tail _ (.tail _ (.tail _ (.head _)))))))))).2).mono ?_
  rintro e W29 ⟨rfl, hb⟩
  have HM29 := Lib.hid (Mem.below HM28.out hb)
  clear hb HM28
  clear cb18a cb18b cb18e cb18c cb16a cb16b cb16e cb16c cb14a cb14b cb14e cb14c cb0a cb0b cb0e cb0c
  obtain ⟨cb28a, cb28b, cb28e, cb28c⟩ := HM29.out.cells3 (.head _)
  obtain ⟨cb18a, cb18b, cb18e, cb18c⟩ := HM29.out.cells3 (.tail _ (.tail _ (.tail _ (.head _))))
  obtain ⟨cb16a, cb16b, cb16e, cb16c⟩ := HM29.out.cells3 (.tail _ (.tail _ (.tail _ (.tail _ (.tail _ (.head _))))))
  obtain ⟨cb14a, cb14b, cb14e, cb14c⟩ := HM29.out.cells3 (.tail _ (.tail _ (.tail _ (.tail _ (.tail _ (.tail _ (.tail _ (.head _))))))))
  obtain ⟨cb0a, cb0b, cb0e, cb0c⟩ := HM29.out.cells3 (.tail _ (.tail _ (.tail _ (.tail _ (.tail _ (.tail _ (.tail _ (.tail _ (.tail _ (.tail _ (.head _)))))))))))
  go_wp2_with fail
  refine (HG.out _ _ _ _ (HM29.out.len (.tail _ (.tail _ (.tail _ (.tail _ (.head _)))))) (HM29.out.reads (.tail _ (.tail _ (.tail _ (.tail _ (.head _)))))).1 (HM29.out.reads (.tail _ (.tail _ (.tail _ (.tail _ (.head _)))))).2).mono ?_
  rintro e W30 ⟨rfl, hb⟩
  have HM30 := Lib.hid (Mem.below HM29.out hb)
  clear hb HM29
  clear cb28a cb28b cb28e cb28c cb18a cb18b cb18e cb18c cb16a cb16b cb16e cb16c cb14a cb14b cb14e cb14c cb0a cb0b cb0e cb0c
  obtain ⟨cb28a, cb28b, cb28e, cb28c⟩ := HM30.out.cells3 (.head _)
  obtain ⟨cb18a, cb18b, cb18e, cb18c⟩ := HM30.out.cells3 (.tail _ (.tail _ (.tail _ (.head _))))
  obtain ⟨cb16a, cb16b, cb16e, cb16c⟩ := HM30.out.cells3 (.tail _ (.tail _ (.tail _ (.tail _ (.tail _ (.head _))))))
  obtain ⟨cb14a, cb14b, cb14e, cb14c⟩ := HM30.out.cells3 (.tail _ (.tail _ (.tail _ (.tail _ (.tail _ (.tail _ (.tail _ (.head _))))))))
  obtain ⟨cb0a, cb0b, cb0e, cb0c⟩ := HM30.out.cells3 (.tail _ (.tail _ (.tail _ (.tail _ (.tail _ (.tail _ (.tail _ (.tail _ (.tail _ (.tail _ (.head _)))))))))))
  go_wp2
  go_ret
  exact ⟨rfl, HM30.out.1⟩
end Go.Proofs.YtjggbalhpflbbaaGreat.KErrorOfRounding
end
