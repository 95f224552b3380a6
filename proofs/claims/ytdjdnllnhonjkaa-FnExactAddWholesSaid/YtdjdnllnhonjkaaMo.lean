/- Walks: an integer as a whole number, with its limbs. -/
import Derived.Test.YtdjdnllnhonjkaaMn
set_option linter.unusedVariables false
set_option linter.unusedSimpArgs false
namespace Go.Proofs.Ytdjdnllnhonjkaa.Mo
open Go.RowKit Go.Proofs.YtdjdnllnhonjkaaW.PrintWords Go.Proofs.YtdjdnllnhonjkaaW.PrintLast Go.Proofs.YtdjdnllnhonjkaaW.PrintMore Go.Proofs.Ytdjdnllnhonjkaa.PW Go.Proofs.Ytdjdnllnhonjkaa.Pc Go.Proofs.Ytdjdnllnhonjkaa.Ma Go.Proofs.Ytdjdnllnhonjkaa.Mb Go.Proofs.Ytdjdnllnhonjkaa.Mc Go.Proofs.Ytdjdnllnhonjkaa.Md Go.Proofs.Ytdjdnllnhonjkaa.Me Go.Proofs.Ytdjdnllnhonjkaa.Mi Go.Proofs.Ytdjdnllnhonjkaa.Mj Go.Proofs.Ytdjdnllnhonjkaa.Mk Go.Proofs.Ytdjdnllnhonjkaa.Ml Go.Proofs.Ytdjdnllnhonjkaa.Mn Dg
open Pm (sgn)

theorem L_next {k : Nat} (h : k ≠ 0) : L k = ((k % 16777216 : Nat) : Int) :: L (k / 16777216) := dg_pos _ h
theorem and_mask (k : Nat) : (((k : Int).natAbs &&& (16777215 : Int).natAbs : Nat) : Int) = ((k % 16777216 : Nat) : Int) := by
  have := Nat.and_two_pow_sub_one_eq_mod k 24
  rw [Int.natAbs_natCast, ← this]
  rfl

set_option maxHeartbeats 1600000 in
theorem fromBig_yes {w : World} {q : Nat} {z : Int} (hz : Z w q z) (h1 : bl z.natAbs ≤ 2400) :
    Calls Try.prog 92 #[.pointer (some ⟨q, 0, none⟩)] w (GivesW w (sgn z) (L z.natAbs) true) := by
  have hB := Me.bitLen (hz.below (below_alloc w (.cells #[.int .i64 0, .slice none 0 0] 28))) (by omega)
  have HB := Lib.hid hB
  have hgt : ((bl z.natAbs : Nat) : Int) ≤ 2400 := by omega
  clear hB
  have HZ := Lib.hid hz
  have HL := Lib.hid h1
  clear hz h1
  generalize bl z.natAbs = b at hgt HB
  go_enter Try.func92, Try.ntmps92
  go_wp2_with fail
  refine HB.out.mono ?_
  rintro e w1 ⟨rfl, n, rfl⟩
  have hb0 : Below w.heap.size w ((w.alloc (.cells #[.int .i64 0, .slice none 0 0] 28)).drewN n) := below_then (below_alloc w _) (Me.below_drawn n)
  have hS := Me.sign (HZ.out.below hb0)
  have hbx : ((w.alloc (.cells #[.int .i64 0, .slice none 0 0] 28)).drewN n).heap[w.heap.size]? = some (.cells #[.int .i64 0, .slice none 0 0] 28 (0, 0)) := ((Me.below_drawn n).block w.heap.size (by simp)).trans (heap_alloc_new w _)
  have hsz : ((w.alloc (.cells #[.int .i64 0, .slice none 0 0] 28)).drewN n).heap.size = w.heap.size + 1 := by show (w.alloc _).heap.size = _; simp
  have HS := Lib.hid hS
  have HB0 := Lib.hid hb0
  have HBX := Lib.hid hbx
  have HSZ := Lib.hid hsz
  clear hS hb0 hbx hsz
  generalize hW0 : (w.alloc (.cells #[.int .i64 0, .slice none 0 0] 28)).drewN n = W0 at *
  clear hW0
  go_wp2_with fail
  refine HS.out.mono ?_
  rintro e w2 ⟨rfl, rfl⟩
  -- the integers that are made
  have hz2 := HZ.out.below (below_then (below_then HB0.out (Ma.below_alloc W0 (.cells #[.int .i64 (sgn z), .slice none 0 0] 28))) (Ma.below_alloc _ (.cells #[.bool false, .slice none 0 0] 76)))
  have hp2 : Blk ((W0.alloc (.cells #[.int .i64 (sgn z), .slice none 0 0] 28)).alloc (.cells #[.bool false, .slice none 0 0] 76)) (W0.heap.size + 1) := by
    have := (Z.new (W0.alloc (.cells #[.int .i64 (sgn z), .slice none 0 0] 28))).blk
    simpa using this
  have hA := Me.abs hp2 hz2 (by have := HL.out; omega)
  have HA := Lib.hid hA
  have HP2 := Lib.hid hp2
  clear hA hz2 hp2
  go_wp2_with fail
  refine HA.out.mono ?_
  rintro e w3 ⟨rfl, hz3, hg3⟩
  have HZ3 := Lib.hid hz3
  have HG3 := Lib.hid hg3
  have hn3 := newInt (w := w3) (n := 16777215) (by decide) (by decide)
  have HN3 := Lib.hid hn3
  clear hz3 hg3 hn3
  go_wp2_with fail
  refine HN3.out.mono ?_
  rintro e w4 ⟨gm, rfl, hz4, hgm, hb4⟩
  have hst : Sr w w4 W0.heap.size (W0.heap.size + 1) gm (sgn z) z.natAbs z.natAbs (.slice none 0 0) [] := by
    have hA1 : Below W0.heap.size W0 ((W0.alloc (.cells #[.int .i64 (sgn z), .slice none 0 0] 28)).alloc (.cells #[.bool false, .slice none 0 0] 76)) := below_then (Ma.below_alloc W0 _) (Ma.below_alloc _ _)
    have hA2 : Below W0.heap.size W0 w3 := below_grown hA1 HG3.out (by omega)
    have hs3 := HG3.out.size
    simp at hs3
    have hcell : ((W0.alloc (.cells #[.int .i64 (sgn z), .slice none 0 0] 28)).alloc (.cells #[.bool false, .slice none 0 0] 76)).heap[W0.heap.size]? = some (.cells #[.int .i64 (sgn z), .slice none 0 0] 28 (0, 0)) := ((Ma.below_alloc _ _).block _ (by simp)).trans (heap_alloc_new W0 _)
    have hcell3 := (HG3.out.block W0.heap.size (by simp; omega) (by simp)).trans hcell
    have hcell4 := (hb4.block W0.heap.size (by omega)).trans hcell3
    have h0 : w.heap.size < W0.heap.size := by have := HSZ.out; omega
    refine ⟨⟨hcell4, Kd.R_nil _ _ _ _ _, ZF.of (HZ3.out.below hb4), ZF.of hz4, below_then (below_then HB0.out hA2) hb4, rfl⟩, ?_⟩
    exact (hb4.block _ (by omega)).trans ((hA2.block _ h0).trans HBX.out)
  have hne : gm ≠ W0.heap.size + 1 := by have := HZ3.out.lt; omega
  have hlim : (L z.natAbs).length ≤ 100 := (L_len_iff _ _).2 (by have := HL.out; omega)
  have HST := Lib.hid hst
  have HNE := Lib.hid hne
  have HLIM := Lib.hid hlim
  have hsz2 : w.heap.size < W0.heap.size := by have := HSZ.out; omega
  have HSZ2 := Lib.hid hsz2
  clear hz4 hgm hb4 hst hne hlim hsz2 HZ3 HG3 HN3 HA HP2 HS HB0 HBX HSZ HZ HB
  go_wp2_with fail
  generalize W0.heap.size = g at *
  have hsign : ∀ (wr : World) (k : Nat) (v : Value) (pre : List Int), Sr w wr g (g + 1) gm (sgn z) z.natAbs k v pre → Calls Try.prog 129 #[.pointer (some ⟨g + 1, 0, none⟩)] wr fun e w' => e = .returned (.int .i64 (sgn (k : Int))) ∧ wr = w' := fun wr k v pre h => Me.sign h.1.2.2.1.zz
  have HSG := Lib.hid hsign
  clear hsign
  go_loopg [] (L z.natAbs).length (fun n wr => ∃ (k : Nat) (v : Value) (pre : List Int), n = (L k).length ∧ Hid (Sr w wr g (g + 1) gm (sgn z) z.natAbs k v pre))
  case atStart => exact ⟨_, _, [], rfl, HST⟩
  case round =>
    obtain ⟨k, v, pre, hlen, HR⟩ := hrel
    clear HST
    obtain ⟨A, c, rfl⟩ := Kd.R_slice HR.out.1.2.1
    by_cases hk : k = 0
    · subst hk
      have hs0 : sgn ((0 : Nat) : Int) = 0 := rfl
      have HS0 := Lib.hid hs0
      clear hs0 hlen
      go_wp2_with fail
      refine (HSG.out wr _ _ _ HR.out).mono ?_
      rintro e w2 ⟨rfl, rfl⟩
      rw [HS0.out]
      have k0 := blk_cell HR.out.1.1 0
      have k1 := blk_cell HR.out.1.1 1
      simp only [List.getElem?_toArray, List.getElem?_cons_zero, List.getElem?_cons_succ] at k0 k1
      have c0 := blk_cell HR.out.2 0
      have c1 := blk_cell HR.out.2 1
      have f0 := blk_frozen HR.out.2 0
      have f1 := blk_frozen HR.out.2 1
      simp only [List.getElem?_toArray, List.getElem?_cons_zero, List.getElem?_cons_succ] at c0 c1
      go_wp2
      have hL0 : pre = L z.natAbs := by have := HR.out.1.2.2.2.2.2; rwa [show L 0 = [] from dg_zero _, List.append_nil] at this
      have hR := Kd.R_set (Kd.R_set HR.out.1.2.1 HR.out.2 (by decide) 0 (.int .i64 (sgn z))) (blk_set HR.out.2 0 (.int .i64 (sgn z))) (by decide) 1 (.slice A pre.length c)
      have hB := (HR.out.1.2.2.2.2.1.setCell (p := ⟨w.heap.size, 0, none⟩) (Nat.le_refl _) (.int .i64 (sgn z))).setCell (p := ⟨w.heap.size, 1, none⟩) (Nat.le_refl _) (.slice A pre.length c)
      have hBL := blk_set (blk_set HR.out.2 0 (.int .i64 (sgn z))) 1 (.slice A pre.length c)
      clear c0 c1 f0 f1 k0 k1
      rw [← hL0]
      exact bodyPost_ret (results_ct rfl _ _ w.heap.size 28 #[.int .i64 (sgn z), .slice A pre.length c] (0, 0) _ rfl hBL Try.underlying28 rfl sizeW) rfl ⟨_, rfl, hR, hB⟩
    · have hs1 : sgn ((k : Nat) : Int) = 1 := by unfold sgn; rw [if_neg (by omega), if_neg (by omega)]
      have HS1 := Lib.hid hs1
      have HK := Lib.hid hk
      clear hs1 hk
      go_wp2_with fail
      refine (HSG.out wr _ _ _ HR.out).mono ?_
      rintro e w2 ⟨rfl, rfl⟩
      rw [HS1.out]
      have kc := blk_cell HR.out.1.1 1
      simp only [List.getElem?_toArray, List.getElem?_cons_zero, List.getElem?_cons_succ] at kc
      have hlt := HR.out.1.lt
      have hh := HR.out.1.2.2.2.2.2
      have hpl : (pre.length + 1) * 8 ≤ 140737488355328 := by have := congrArg List.length hh; rw [List.length_append] at this; have := HLIM.out; omega
      have hbk : bl k ≤ 2400 := by
        have : (L k).length ≤ 100 := by have := congrArg List.length hh; rw [List.length_append] at this; have := HLIM.out; omega
        have := (L_len_iff k 100).1 this
        omega
      rw [L_next HK.out] at hh hlen
      have he : (pre ++ [((k % 16777216 : Nat) : Int)]) ++ L (k / 16777216) = L z.natAbs := by rw [List.append_assoc]; exact hh
      have hms : (L (k / 16777216)).length < gk := by rw [hlen]; simp
      have HPL := Lib.hid hpl
      have HBK := Lib.hid hbk
      have HE := Lib.hid he
      have HMS := Lib.hid hms
      clear hh hpl hbk he hms hlen
      have hand : ∀ W : World, Below wr.heap.size wr W → Blk W wr.heap.size → Calls Try.prog 131 #[.pointer (some ⟨wr.heap.size, 0, none⟩), .pointer (some ⟨g + 1, 0, none⟩), .pointer (some ⟨gm, 0, none⟩)] W fun e w' => e = .returned (.pointer (some ⟨wr.heap.size, 0, none⟩)) ∧ Hid (Sr w w' g (g + 1) gm (sgn z) z.natAbs k (.slice A pre.length c) pre) ∧ Hid (Z w' wr.heap.size ((k % 16777216 : Nat) : Int)) ∧ w'.cell? ⟨g, 1, none⟩ = some (.slice A pre.length c) := by
        intro W hW hB
        have hr := HR.out.below hW
        have h0 := HR.out.1.2.2.1.zz.lt
        have h2 := HR.out.1.2.2.2.1.zz.lt
        have hbk : bl ((k : Nat) : Int).natAbs ≤ 2400 := by
          have := HBK.out
          rw [Int.natAbs_natCast]; omega
        refine (andd hB hr.1.2.2.1.zz hr.1.2.2.2.1.zz (by omega) (by decide)).mono ?_
        rintro e w' ⟨rfl, hz, hg⟩
        rw [and_mask] at hz
        have hr2 := hr.other hB (by omega) (by omega) (by have := HR.out.lt; omega) hg
        exact ⟨rfl, Lib.hid hr2, Lib.hid hz, hr2.1.cell⟩
      have HAND := Lib.hid hand
      have hint : ∀ W : World, Z W wr.heap.size ((k % 16777216 : Nat) : Int) → Calls Try.prog 74 #[.pointer (some ⟨wr.heap.size, 0, none⟩)] W fun e w' => e = .returned (.int .i64 ((k % 16777216 : Nat) : Int)) ∧ W = w' := fun W hW => int64 hW (by omega) (by omega)
      have HINT := Lib.hid hint
      clear hand hint
      go_wp2_with fail
      go_region_law (first | (go_simp; go_at_call 131; refine (HAND.out _ (by first | exact ((Below.refl _ _).alloc (Nat.le_refl _) _).drew | exact (Below.refl _ _).drew.alloc (Nat.le_refl _) _) (by first | exact (Z.new wr).blk.below (Below.refl _ _).drew | exact (Z.new wr.drew).blk)).mono ?_; rintro e w2 ⟨rfl, HR2, HZ2, kc2⟩; have hl2 := HR2.out.1.lt; clear HR kc) | (go_simp; go_at_call 74; refine (HINT.out _ HZ2.out).mono ?_; rintro e w3 ⟨rfl, rfl⟩) | (refine Kd.R_append_step (Kd.int .i64) (w0 := w) w.heap.size (by rfl) (.tmp 22) (.tmp 28) 22 2 (.int .i64 0) 8 rfl Try.underlying22 infoI rfl (by decide) (by omega) _ pre ((k % 16777216 : Nat) : Int) [.int .i64 ((k % 16777216 : Nat) : Int)] (fun _ => True) (fun _ => False) rfl rfl rfl (fun _ hk => hk.elim) (fun _ _ => trivial) HR2.out.1.2.1 HR2.out.1.2.2.2.2.1 HR2.out.1.2.2.2.2.1.size HPL.out ?_; intro v1 w1 ho hb hg hat; obtain ⟨A1, c1, rfl⟩ := Kd.R_slice ho; obtain ⟨ff, ⟨u, cc⟩, HP⟩ := HR2.out.put ho hg hat hb HSZ2.out; rw [show (pre ++ [((k % 16777216 : Nat) : Int)]).length = pre.length + 1 by simp] at HP; have HPH := Lib.hid HP; clear HP ho hb hg hat HR2))
      all_goals clear HAND HINT HZ2
      all_goals
        clear kc2 hl2 hlt
        go_wp2_with fail
        refine (rshF HPH.out.2.2.1.zz (n := 24) (Nat.le_trans HBK.out (by decide)) (by decide)).mono ?_
        intro e w5 hp
        have HR5 := Lib.hid (HPH.out.rest hp HNE.out (Nat.lt_succ_of_lt HSZ2.out) HE.out)
        obtain ⟨⟨rfl, hz5, hg5⟩, hf5⟩ := hp
        clear hz5 hg5 hf5 HPH ff cc
        go_wp2_with fail
        go_roundg (L (k / 16777216)).length
        case measure => exact HMS.out
        case rel => exact ⟨_, _, _, rfl, HR5⟩
end Go.Proofs.Ytdjdnllnhonjkaa.Mo
