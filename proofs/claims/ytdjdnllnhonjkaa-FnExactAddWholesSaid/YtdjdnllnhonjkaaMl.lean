/- Walks: the bits that both of two integers have. -/
import Derived.Test.YtdjdnllnhonjkaaMk
import Derived.Deep.RegionLaw
import Derived.RegionTactic
set_option linter.unusedVariables false
set_option linter.unusedSimpArgs false
namespace Go.Proofs.Ytdjdnllnhonjkaa.Ml
open Go.RowKit Go.Proofs.YtdjdnllnhonjkaaW.PrintWords Go.Proofs.YtdjdnllnhonjkaaW.PrintLast Go.Proofs.YtdjdnllnhonjkaaW.PrintMore Go.Proofs.Ytdjdnllnhonjkaa.PW Go.Proofs.Ytdjdnllnhonjkaa.Pc Go.Proofs.Ytdjdnllnhonjkaa.Ma Go.Proofs.Ytdjdnllnhonjkaa.Mb Go.Proofs.Ytdjdnllnhonjkaa.Mc Go.Proofs.Ytdjdnllnhonjkaa.Md Go.Proofs.Ytdjdnllnhonjkaa.Me Go.Proofs.Ytdjdnllnhonjkaa.Mi Go.Proofs.Ytdjdnllnhonjkaa.Mj Go.Proofs.Ytdjdnllnhonjkaa.Mk Dg

theorem D_and (a b i : Nat) : (D (a &&& b)).getD i 0 = (((a / 4294967296 ^ i % 4294967296) &&& (b / 4294967296 ^ i % 4294967296) : Nat) : Int) := by
  rw [D_getD]
  congr 1
  rw [show (4294967296 : Nat) = 2 ^ 32 from rfl, ← Nat.pow_mul]
  have h1 : (a &&& b) / 2 ^ (32 * i) = a / 2 ^ (32 * i) &&& b / 2 ^ (32 * i) := by
    rw [← Nat.shiftRight_eq_div_pow, ← Nat.shiftRight_eq_div_pow, ← Nat.shiftRight_eq_div_pow, Nat.shiftRight_and_distrib]
  rw [h1, Nat.and_mod_two_pow]

/-- The first digits of both's bits. -/
def andl (a b k : Nat) : List Int := (List.range k).map fun j => bits .and .u32 ((D a).getD j 0) ((D b).getD j 0)

theorem andl_len (a b k : Nat) : (andl a b k).length = k := by unfold andl; simp
theorem andl_succ (a b k : Nat) : andl a b (k + 1) = andl a b k ++ [bits .and .u32 ((D a).getD k 0) ((D b).getD k 0)] := by unfold andl; rw [List.range_succ, List.map_append]; rfl

theorem and_digit (a b j : Nat) : bits .and .u32 ((D a).getD j 0) ((D b).getD j 0) = (((a &&& b) / 4294967296 ^ j % 4294967296 : Nat) : Int) := by
  rw [← D_getD, D_and, D_getD, D_getD]
  exact (bits_nat .u32 32 (by decide) Po.wraps_u32 _ _ (Nat.mod_lt _ (by decide)) (Nat.mod_lt _ (by decide))).1

theorem andl_done (a b m : Nat) (hm : (D a).length ≤ m ∨ (D b).length ≤ m) : Dig 4294967296 (andl a b m) ∧ val 4294967296 (andl a b m) = ((a &&& b : Nat) : Int) := by
  have h2 : ∀ j, j < (andl a b m).length → (andl a b m).getD j 0 = (((a &&& b) / 4294967296 ^ j % 4294967296 : Nat) : Int) := by
    intro j hj
    rw [andl_len] at hj
    rw [← and_digit]
    unfold andl
    simp [List.getD, hj]
  constructor
  · exact dig_of_getD fun j hj => by rw [h2 j hj]; have := Nat.mod_lt ((a &&& b) / 4294967296 ^ j) (show 0 < 4294967296 by decide); omega
  · rw [val_digits (by decide) _ (a &&& b) h2, andl_len]
    congr 1
    apply Nat.mod_eq_of_lt
    have e : (4294967296 : Nat) = 2 ^ 32 := rfl
    rw [e, ← Nat.pow_mul]
    rcases hm with h | h
    · refine Nat.lt_of_le_of_lt Nat.and_le_left (Nat.lt_of_lt_of_le (lt_bl a) (Nat.pow_le_pow_right (by decide) ?_))
      have := D_bl a
      omega
    · refine Nat.lt_of_le_of_lt Nat.and_le_right (Nat.lt_of_lt_of_le (lt_bl b) (Nat.pow_le_pow_right (by decide) ?_))
      have := D_bl b
      omega

set_option maxHeartbeats 1600000 in
set_option maxRecDepth 100000 in
theorem andd {w : World} {p q s : Nat} {x y : Int} (hp : Blk w p) (hx : Z w q x) (hy : Z w s y) (h1 : bl x.natAbs ≤ 536870912) (h2 : bl y.natAbs ≤ 536870912) :
    Calls Try.prog 131 #[.pointer (some ⟨p, 0, none⟩), .pointer (some ⟨q, 0, none⟩), .pointer (some ⟨s, 0, none⟩)] w (Puts w p ((x.natAbs &&& y.natAbs : Nat) : Int)) := by
  obtain ⟨A, c, k0, k1, hm, hq⟩ := Z.open hx
  obtain ⟨B, d, j0, j1, hn, hs⟩ := Z.open hy
  have hl1 := D_len x.natAbs
  have hl2 := D_len y.natAbs
  have hca : ∀ (k : Nat) (wr : World), k < (D x.natAbs).length → Below w.heap.size w wr → ∃ ad, A = some ad ∧ wr.cell? (ad.add k) = some (.int .u32 ((D x.natAbs).getD k 0)) := fun k wr hk hb => by
    obtain ⟨ad, hA, hc⟩ := Kd.at_int hm.1 (k : Int) (by omega) (by omega)
    rw [Int.toNat_natCast, rdN] at hc
    exact ⟨ad, hA, (hb.cell (World.block_lt_of_cell? w _ hc)).trans hc⟩
  have hcb : ∀ (k : Nat) (wr : World), k < (D y.natAbs).length → Below w.heap.size w wr → ∃ ad, B = some ad ∧ wr.cell? (ad.add k) = some (.int .u32 ((D y.natAbs).getD k 0)) := fun k wr hk hb => by
    obtain ⟨ad, hA, hc⟩ := Kd.at_int hn.1 (k : Int) (by omega) (by omega)
    rw [Int.toNat_natCast, rdN] at hc
    exact ⟨ad, hA, (hb.cell (World.block_lt_of_cell? w _ hc)).trans hc⟩
  have hcc : ∀ wr, Below w.heap.size w wr → (wr.cell? ⟨q, 1, none⟩ = some (.slice A (D x.natAbs).length c) ∧ wr.cell? ⟨s, 1, none⟩ = some (.slice B (D y.natAbs).length d)) := fun wr hb =>
    ⟨(hb.cell (p := ⟨q, 1, none⟩) hq).trans k1, (hb.cell (p := ⟨s, 1, none⟩) hs).trans j1⟩
  have hfin : ∀ (m : Nat) (v : Value) (wr : World), ((D x.natAbs).length ≤ m ∨ (D y.natAbs).length ≤ m) → m ≤ 536870912 → Kd.R (Kd.int .u32) 107 wr w.heap.size (fun _ => True) v (andl x.natAbs y.natAbs m) → Below w.heap.size w wr →
      Calls Try.prog 115 #[.pointer (some ⟨p, 0, none⟩), .bool false, v] wr (Puts w p ((x.natAbs &&& y.natAbs : Nat) : Int)) := by
    intro m v wr hmm hm2 hR hb
    obtain ⟨A', c', rfl⟩ := Kd.R_slice hR
    have hr := Kd.R_reads' hR
    obtain ⟨hd, hv⟩ := andl_done _ _ _ hmm
    have := put (neg := false) (hp.below hb) (xs := andl x.natAbs y.natAbs m) ⟨hr.2.2, hr.2.1⟩ hd (by rw [andl_len]; omega)
    refine this.mono fun e w' h => ?_
    rw [hv] at h
    exact Mc.Puts.below hb h
  have HF := Lib.hid hfin
  have HCA := Lib.hid hca
  have HCB := Lib.hid hcb
  have HCC := Lib.hid hcc
  clear hfin hca hcb hcc hp hx hy hm hn
  generalize hla : (D x.natAbs).length = la at *
  generalize hlb : (D y.natAbs).length = lb at *
  clear hla hlb
  obtain ⟨m, hm1, hm2, hm3⟩ : ∃ m : Nat, m ≤ la ∧ m ≤ lb ∧ (la ≤ m ∨ lb ≤ m) := ⟨min la lb, by omega, by omega, by omega⟩
  have HM3 := Lib.hid hm3
  have HB := Aside0.mk (Below.refl w.heap.size w)
  have Ny0 := Aside0.mk (show ([] : List Int) = andl x.natAbs y.natAbs 0 from rfl)
  have hl1' : la ≤ 536870912 := by omega
  have hl2' : lb ≤ 536870912 := by omega
  clear hl1 hl2 h1 h2
  by_cases hlt : la < lb
  · obtain rfl : la = m := by omega
    clear hm1 hm3
    go_enter Try.func131, Try.ntmps131
    go_wp2_with ((with_reducible refine gate_dst (N := 9) rfl ?_); refine Kd.R_lit (Kd.int .u32) _ 107 ?hg (N := 9) ?hd (xs := ([] : List Int)) (inner := []) (ok := fun _ => True) (okp := fun _ => True) ?hr ?hp (fun _ hk => hk) trivial (Below.refl _ _) (Nat.le_refl _) (by simp) ?_; (case hd => rfl); (case hg => rfl); (case hr => first | (go_simp; done) | (go_simp; rfl)); (case hp => exact (Reps.none _ _)); intro v168 w3 ho4 hb hg_ hnew_; clear hg_ hnew_; rw [Ny0.out] at ho4; have n0_ := Aside0.mk (Kd.R_lower ho4 (Nat.le_refl _)); have n1_ := Aside0.mk hb; clear HB; have HO := n0_; have HB := n1_; obtain ⟨cx, cy⟩ := HCC.out w3 hb; clear n0_ n1_; clear hb ho4)
    go_region
    go_wp2_with fail
    go_loopw [7, 21] (fun v i wr => ∃ k : Nat, i = .int .i64 k ∧ k ≤ la ∧ Aside0 (Kd.R (Kd.int .u32) 107 wr w.heap.size (fun _ => True) v (andl x.natAbs y.natAbs k)) ∧ Aside0 (Below w.heap.size w wr)) (fun _ i _ => la - (intOf i).toNat)
    case atStart => exact ⟨0, rfl, by omega, ⟨by (with_reducible repeat (first | apply Kd.R_alloc | apply Kd.R_drewN | apply Kd.R_drew)); exact HO.out⟩, ⟨HB.out.drew⟩⟩
    case round =>
      clear HO HB cx cy
      obtain ⟨k, rfl, hk, HO, HB⟩ := hrel
      obtain ⟨cx, cy⟩ := HCC.out wr HB.out
      by_cases hkm : k < la
      · obtain ⟨ad, hA, ca⟩ := HCA.out k wr (by omega) HB.out
        obtain ⟨bd, hB, cb⟩ := HCB.out k wr (by omega) HB.out
        subst hA
        subst hB
        have HS := Aside0.mk (andl_succ x.natAbs y.natAbs k).symm
        have HLN := Aside0.mk (show ((andl x.natAbs y.natAbs k).length + 1) * 4 ≤ 140737488355328 by rw [andl_len]; omega)
        have hka : (k : Int) < (la : Int) := by omega
        have hkb : (k : Int) < (lb : Int) := by omega
        generalize (D x.natAbs).getD k 0 = u at *
        generalize (D y.natAbs).getD k 0 = v at *
        go_wp2_with fail
        go_region_law (refine Kd.R_append_step (Kd.int .u32) (w0 := w) w.heap.size (by rfl) (.tmp 24) (.tmp 40) 74 107 (.int .u32 0) 4 rfl Try.underlying74 infoU rfl (by decide) (by omega) _ (andl x.natAbs y.natAbs k) (bits .and .u32 u v) [.int .u32 (bits .and .u32 u v)] (fun _ => True) (fun _ => False) rfl rfl rfl (fun _ hk => hk.elim) (fun _ _ => trivial) (Kd.R_drew HO.out) HB.out.drew HB.out.size HLN.out ?_; intro v1 w1 ho hb hg hat; rw [HS.out] at ho; have HO1 := Aside0.mk ho; have HB1 := Aside0.mk hb; clear ho hb hg hat HO HB)
        all_goals go_wp2
        all_goals go_roundw
        all_goals first | exact ⟨k + 1, by go_num, by omega, HO1, HB1⟩ | ((simp [intOf]) <;> omega)
      · obtain rfl : la = k := by omega
        have HC := Lib.hid (HF.out la _ wr HM3.out (by omega) HO.out HB.out)
        clear HO HB
        go_wp2_with (go_at_call 115; refine HC.out.mono ?_; rintro e w2 ⟨rfl, hz2, hg2⟩; have HE := Lib.hid (show Puts w p ((x.natAbs &&& y.natAbs : Nat) : Int) _ w2 from ⟨rfl, hz2, hg2⟩); clear hz2 hg2)
        go_ret
        exact HE.out
  · by_cases hlt2 : lb < la
    · obtain rfl : lb = m := by omega
      clear hm1 hm3
      go_enter Try.func131, Try.ntmps131
      go_wp2_with ((with_reducible refine gate_dst (N := 9) rfl ?_); refine Kd.R_lit (Kd.int .u32) _ 107 ?hg (N := 9) ?hd (xs := ([] : List Int)) (inner := []) (ok := fun _ => True) (okp := fun _ => True) ?hr ?hp (fun _ hk => hk) trivial (Below.refl _ _) (Nat.le_refl _) (by simp) ?_; (case hd => rfl); (case hg => rfl); (case hr => first | (go_simp; done) | (go_simp; rfl)); (case hp => exact (Reps.none _ _)); intro v168 w3 ho4 hb hg_ hnew_; clear hg_ hnew_; rw [Ny0.out] at ho4; have n0_ := Aside0.mk (Kd.R_lower ho4 (Nat.le_refl _)); have n1_ := Aside0.mk hb; clear HB; have HO := n0_; have HB := n1_; obtain ⟨cx, cy⟩ := HCC.out w3 hb; clear n0_ n1_; clear hb ho4)
      go_region
      go_wp2_with fail
      go_loopw [7, 21] (fun v i wr => ∃ k : Nat, i = .int .i64 k ∧ k ≤ lb ∧ Aside0 (Kd.R (Kd.int .u32) 107 wr w.heap.size (fun _ => True) v (andl x.natAbs y.natAbs k)) ∧ Aside0 (Below w.heap.size w wr)) (fun _ i _ => lb - (intOf i).toNat)
      case atStart => exact ⟨0, rfl, by omega, ⟨by (with_reducible repeat (first | apply Kd.R_alloc | apply Kd.R_drewN | apply Kd.R_drew)); exact HO.out⟩, ⟨HB.out.drew⟩⟩
      case round =>
        clear HO HB cx cy
        obtain ⟨k, rfl, hk, HO, HB⟩ := hrel
        obtain ⟨cx, cy⟩ := HCC.out wr HB.out
        by_cases hkm : k < lb
        · obtain ⟨ad, hA, ca⟩ := HCA.out k wr (by omega) HB.out
          obtain ⟨bd, hB, cb⟩ := HCB.out k wr (by omega) HB.out
          subst hA
          subst hB
          have HS := Aside0.mk (andl_succ x.natAbs y.natAbs k).symm
          have HLN := Aside0.mk (show ((andl x.natAbs y.natAbs k).length + 1) * 4 ≤ 140737488355328 by rw [andl_len]; omega)
          have hka : (k : Int) < (la : Int) := by omega
          have hkb : (k : Int) < (lb : Int) := by omega
          generalize (D x.natAbs).getD k 0 = u at *
          generalize (D y.natAbs).getD k 0 = v at *
          go_wp2_with fail
          go_region_law (refine Kd.R_append_step (Kd.int .u32) (w0 := w) w.heap.size (by rfl) (.tmp 24) (.tmp 40) 74 107 (.int .u32 0) 4 rfl Try.underlying74 infoU rfl (by decide) (by omega) _ (andl x.natAbs y.natAbs k) (bits .and .u32 u v) [.int .u32 (bits .and .u32 u v)] (fun _ => True) (fun _ => False) rfl rfl rfl (fun _ hk => hk.elim) (fun _ _ => trivial) (Kd.R_drew HO.out) HB.out.drew HB.out.size HLN.out ?_; intro v1 w1 ho hb hg hat; rw [HS.out] at ho; have HO1 := Aside0.mk ho; have HB1 := Aside0.mk hb; clear ho hb hg hat HO HB)
          all_goals go_wp2
          all_goals go_roundw
          all_goals first | exact ⟨k + 1, by go_num, by omega, HO1, HB1⟩ | ((simp [intOf]) <;> omega)
        · obtain rfl : lb = k := by omega
          have HC := Lib.hid (HF.out lb _ wr HM3.out (by omega) HO.out HB.out)
          clear HO HB
          go_wp2_with (go_at_call 115; refine HC.out.mono ?_; rintro e w2 ⟨rfl, hz2, hg2⟩; have HE := Lib.hid (show Puts w p ((x.natAbs &&& y.natAbs : Nat) : Int) _ w2 from ⟨rfl, hz2, hg2⟩); clear hz2 hg2)
          go_ret
          exact HE.out

    · obtain rfl : la = lb := by omega
      obtain rfl : la = m := by omega
      clear hm1 hm3
      go_enter Try.func131, Try.ntmps131
      go_wp2_with ((with_reducible refine gate_dst (N := 9) rfl ?_); refine Kd.R_lit (Kd.int .u32) _ 107 ?hg (N := 9) ?hd (xs := ([] : List Int)) (inner := []) (ok := fun _ => True) (okp := fun _ => True) ?hr ?hp (fun _ hk => hk) trivial (Below.refl _ _) (Nat.le_refl _) (by simp) ?_; (case hd => rfl); (case hg => rfl); (case hr => first | (go_simp; done) | (go_simp; rfl)); (case hp => exact (Reps.none _ _)); intro v168 w3 ho4 hb hg_ hnew_; clear hg_ hnew_; rw [Ny0.out] at ho4; have n0_ := Aside0.mk (Kd.R_lower ho4 (Nat.le_refl _)); have n1_ := Aside0.mk hb; clear HB; have HO := n0_; have HB := n1_; obtain ⟨cx, cy⟩ := HCC.out w3 hb; clear n0_ n1_; clear hb ho4)
      go_region
      go_wp2_with fail
      go_loopw [7, 21] (fun v i wr => ∃ k : Nat, i = .int .i64 k ∧ k ≤ la ∧ Aside0 (Kd.R (Kd.int .u32) 107 wr w.heap.size (fun _ => True) v (andl x.natAbs y.natAbs k)) ∧ Aside0 (Below w.heap.size w wr)) (fun _ i _ => la - (intOf i).toNat)
      case atStart => exact ⟨0, rfl, by omega, ⟨by (with_reducible repeat (first | apply Kd.R_alloc | apply Kd.R_drewN | apply Kd.R_drew)); exact HO.out⟩, ⟨HB.out.drew⟩⟩
      case round =>
        clear HO HB cx cy
        obtain ⟨k, rfl, hk, HO, HB⟩ := hrel
        obtain ⟨cx, cy⟩ := HCC.out wr HB.out
        by_cases hkm : k < la
        · obtain ⟨ad, hA, ca⟩ := HCA.out k wr (by omega) HB.out
          obtain ⟨bd, hB, cb⟩ := HCB.out k wr (by omega) HB.out
          subst hA
          subst hB
          have HS := Aside0.mk (andl_succ x.natAbs y.natAbs k).symm
          have HLN := Aside0.mk (show ((andl x.natAbs y.natAbs k).length + 1) * 4 ≤ 140737488355328 by rw [andl_len]; omega)
          have hka : (k : Int) < (la : Int) := by omega
          have hkb : (k : Int) < (la : Int) := by omega
          generalize (D x.natAbs).getD k 0 = u at *
          generalize (D y.natAbs).getD k 0 = v at *
          go_wp2_with fail
          go_region_law (refine Kd.R_append_step (Kd.int .u32) (w0 := w) w.heap.size (by rfl) (.tmp 24) (.tmp 40) 74 107 (.int .u32 0) 4 rfl Try.underlying74 infoU rfl (by decide) (by omega) _ (andl x.natAbs y.natAbs k) (bits .and .u32 u v) [.int .u32 (bits .and .u32 u v)] (fun _ => True) (fun _ => False) rfl rfl rfl (fun _ hk => hk.elim) (fun _ _ => trivial) (Kd.R_drew HO.out) HB.out.drew HB.out.size HLN.out ?_; intro v1 w1 ho hb hg hat; rw [HS.out] at ho; have HO1 := Aside0.mk ho; have HB1 := Aside0.mk hb; clear ho hb hg hat HO HB)
          all_goals go_wp2
          all_goals go_roundw
          all_goals first | exact ⟨k + 1, by go_num, by omega, HO1, HB1⟩ | ((simp [intOf]) <;> omega)
        · obtain rfl : la = k := by omega
          have HC := Lib.hid (HF.out la _ wr HM3.out (by omega) HO.out HB.out)
          clear HO HB
          go_wp2_with (go_at_call 115; refine HC.out.mono ?_; rintro e w2 ⟨rfl, hz2, hg2⟩; have HE := Lib.hid (show Puts w p ((x.natAbs &&& y.natAbs : Nat) : Int) _ w2 from ⟨rfl, hz2, hg2⟩); clear hz2 hg2)
          go_ret
          exact HE.out
end Go.Proofs.Ytdjdnllnhonjkaa.Ml
