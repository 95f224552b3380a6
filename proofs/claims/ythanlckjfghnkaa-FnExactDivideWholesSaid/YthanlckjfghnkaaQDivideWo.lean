/- Lemmas of the claim: Mf, Mg, Mh, Mi, Mj, Mk, Ml, Mn, Mo, Mq, Mr, Mu, Ta, Tb, Tc, Te, Td, Tf, XkDivideWholes. -/
import Derived.RegionTactic
import Derived.ChangeAlike
import Derived.Laws.CopyOwn
import Derived.Deep.OwnRows
import Derived.Test.YthanlckjfghnkaaQDivideWn
import Derived.Test.YthanlckjfghnkaaQDivideWi
import Derived.Deep.RegionLaw
import Derived.Deep.LoopGhost
import Derived.Test.YthanlckjfghnkaaQDivideWa
import Derived.Deep.CutBlock
import Derived.Deep.CutRange
import Derived.Deep.DeepCutAuto
section
set_option linter.unusedVariables false
set_option linter.unusedSimpArgs false
namespace Go.Proofs.Ythanlckjfghnkaa.Mf
open Go.RowKit Go.Proofs.YthanlckjfghnkaaW.PrintWords Go.Proofs.Ythanlckjfghnkaa.PW Go.Proofs.Ythanlckjfghnkaa.Pc Go.Proofs.Ythanlckjfghnkaa.Ma Go.Proofs.Ythanlckjfghnkaa.Mb Go.Proofs.Ythanlckjfghnkaa.Mc Go.Proofs.Ythanlckjfghnkaa.Md Go.Proofs.Ythanlckjfghnkaa.Me Dg
theorem D_or (a b i : Nat) : (D (a ||| b)).getD i 0 = (((a / 4294967296 ^ i % 4294967296) ||| (b / 4294967296 ^ i % 4294967296) : Nat) : Int) := by
  rw [D_getD]
  congr 1
  rw [show (4294967296 : Nat) = 2 ^ 32 from rfl, ← Nat.pow_mul]
  have h1 : (a ||| b) / 2 ^ (32 * i) = a / 2 ^ (32 * i) ||| b / 2 ^ (32 * i) := by
    rw [← Nat.shiftRight_eq_div_pow, ← Nat.shiftRight_eq_div_pow, ← Nat.shiftRight_eq_div_pow, Nat.shiftRight_or_distrib]
  rw [h1, Nat.or_mod_two_pow]
theorem or_list {a b : Nat} {ys : List Int} (hl : ys.length = max (D a).length (D b).length) (h : ∀ j, j < ys.length → ys.getD j 0 = bits .or .u32 ((D a).getD j 0) ((D b).getD j 0)) : Dig 4294967296 ys ∧ val 4294967296 ys = ((a ||| b : Nat) : Int) := by
  have hb : ∀ j, bits .or .u32 ((D a).getD j 0) ((D b).getD j 0) = (((a ||| b) / 4294967296 ^ j % 4294967296 : Nat) : Int) := by
    intro j
    rw [← D_getD, D_or, D_getD, D_getD]
    exact (bits_nat .u32 32 (by decide) Po.wraps_u32 _ _ (Nat.mod_lt _ (by decide)) (Nat.mod_lt _ (by decide))).2
  have h2 : ∀ j, j < ys.length → ys.getD j 0 = (((a ||| b) / 4294967296 ^ j % 4294967296 : Nat) : Int) := fun j hj => by rw [h j hj, hb]
  constructor
  · exact dig_of_getD fun j hj => by rw [h2 j hj]; have := Nat.mod_lt ((a ||| b) / 4294967296 ^ j) (show 0 < 4294967296 by decide); omega
  · rw [val_digits (by decide) ys (a ||| b) h2]
    congr 1
    apply Nat.mod_eq_of_lt
    have e : (4294967296 : Nat) = 2 ^ 32 := rfl
    rw [e, ← Nat.pow_mul]
    apply Nat.or_lt_two_pow
    · have := D_bl a
      have h3 := lt_bl a
      have := Nat.pow_le_pow_right (n := 2) (by decide) (show bl a ≤ 32 * ys.length by omega)
      omega
    · have := D_bl b
      have h3 := lt_bl b
      have := Nat.pow_le_pow_right (n := 2) (by decide) (show bl b ≤ 32 * ys.length by omega)
      omega
theorem made_list (n : Nat) : (madeCells #[Value.int .u32 0] n).toList = (List.replicate n (0 : Int)).map (Value.int .u32) := by
  apply List.ext_getElem
  · simp [madeCells]
  · intro i h1 h2
    simp [madeCells, Nat.mod_one]
theorem splice_list {a : List Int} {n : Nat} (h : a.length ≤ n) : splice ((List.replicate n (0 : Int)).map (Value.int .u32)) 0 (a.map (Value.int .u32)) = (a ++ List.replicate (n - a.length) 0).map (Value.int .u32) := by
  unfold splice
  simp
theorem append_zeros_getD (a : List Int) (k j : Nat) : (a ++ List.replicate k (0 : Int)).getD j 0 = a.getD j 0 := by
  rcases Nat.lt_or_ge j a.length with h | h
  · simp [List.getD, List.getElem?_append_left h]
  · rw [getD_ge h]
    simp [List.getD, List.getElem?_append_right h, List.getElem?_replicate]
    split <;> rfl
def OrTo (a b : Nat) (m i : Nat) (ys : List Int) : Prop := ys.length = m ∧ (∀ j, j < i → ys.getD j 0 = bits .or .u32 ((D a).getD j 0) ((D b).getD j 0)) ∧ (∀ j, i ≤ j → ys.getD j 0 = (D a).getD j 0)
theorem OrTo.step {a b m i : Nat} {ys : List Int} (h : OrTo a b m i ys) (hi : i < m) : OrTo a b m (i + 1) (ys.set i (bits .or .u32 ((D a).getD i 0) ((D b).getD i 0))) := by
  obtain ⟨h1, h2, h3⟩ := h
  refine ⟨by simpa using h1, fun j hj => ?_, fun j hj => ?_⟩
  · by_cases e : j = i
    · subst e; rw [Dg.getD_set_eq (by omega)]
    · rw [Dg.getD_set_ne (by omega)]; exact h2 j (by omega)
  · rw [Dg.getD_set_ne (by omega)]; exact h3 j (by omega)
theorem or_zero (a j : Nat) : bits .or .u32 ((D a).getD j 0) 0 = (D a).getD j 0 := by
  have := (bits_nat .u32 32 (by decide) Po.wraps_u32 (a / 4294967296 ^ j % 4294967296) 0 (Nat.mod_lt _ (by decide)) (by decide)).2
  rw [D_getD]
  simpa using this
theorem OrTo.done {a b m : Nat} {ys : List Int} (h : OrTo a b m (D b).length ys) (hm : m = max (D a).length (D b).length) : Dig 4294967296 ys ∧ val 4294967296 ys = ((a ||| b : Nat) : Int) := by
  obtain ⟨h1, h2, h3⟩ := h
  refine or_list (by omega) fun j hj => ?_
  by_cases hjb : j < (D b).length
  · exact h2 j hjb
  · rw [h3 j (by omega), getD_ge (l := D b) (by omega), or_zero]
theorem nums_set {ys : List Int} {i : Nat} {x : Int} : (ys.map (Value.int .u32)).toArray.setIfInBounds i (.int .u32 x) = ((ys.set i x).map (Value.int .u32)).toArray := by
  simp [List.map_set]
theorem sizeU : (Try.prog.info? 94).map (·.size) = some 1 := by kernel_rfl
set_option maxHeartbeats 1600000 in
set_option maxRecDepth 100000 in
theorem orr {w : World} {p q s : Nat} {x y : Int} (hp : Blk w p) (hx : Z w q x) (hy : Z w s y) (h1 : bl x.natAbs ≤ 536870912) (h2 : bl y.natAbs ≤ 536870912) :
    Calls Try.prog 70 #[.pointer (some ⟨p, 0, none⟩), .pointer (some ⟨q, 0, none⟩), .pointer (some ⟨s, 0, none⟩)] w (Puts w p ((x.natAbs ||| y.natAbs : Nat) : Int)) := by
  obtain ⟨A, c, k0, k1, hm, hq⟩ := Z.open hx
  obtain ⟨B, d, j0, j1, hn, hs⟩ := Z.open hy
  have hl1 := D_len x.natAbs
  have hl2 := D_len y.natAbs
  generalize hla : (D x.natAbs).length = la at *
  generalize hlb : (D y.natAbs).length = lb at *
  have HLA := Lib.hid hla
  have HLB := Lib.hid hlb
  have HM := Lib.hid hm
  have HNN := Lib.hid hn
  have HPB := Lib.hid hp
  have hla2 : la ≤ 536870912 := by omega
  have hlb2 : lb ≤ 536870912 := by omega
  clear hla hlb
  clear hp hx hy hm hn h1 h2 hl1 hl2
  have hfin : ∀ (m : Nat) (ys : List Int) (wr : World), m = max la lb → OrTo x.natAbs y.natAbs m lb ys → wr.heap[w.heap.size]? = some (.cells (ys.map (Value.int .u32)).toArray 94 (0, 0)) → Below w.heap.size w wr →
      Calls Try.prog 62 #[.pointer (some ⟨p, 0, none⟩), .bool false, .slice (some ⟨w.heap.size, 0, none⟩) m m] wr (Puts w p ((x.natAbs ||| y.natAbs : Nat) : Int)) := by
    intro m ys wr hm hor hblk hb
    have hl := hor.1
    rw [← HLB.out] at hor
    obtain ⟨hd, hv⟩ := hor.done (by rw [HLA.out, HLB.out]; exact hm)
    have hr := Mg.row (xs := ys) hblk (by simp) (by omega)
    have := put (neg := false) (HPB.out.below hb) hr hd (by omega)
    rw [hl] at this
    refine this.mono fun e w' h => ?_
    rw [hv] at h
    exact Puts.below hb h
  have HF := Lib.hid hfin
  clear hfin
  by_cases hlt : la < lb
  · have hmk := run_make_row' (P := Try.prog) 55 94 (.int .u32 0) 4 Try.underlying55 infoU rfl .i64 .i64 lb (by omega) (by omega)
    have hlb : lb = max la lb := by omega
    have Hlb := Lib.hid hlb
    clear hlb
    have hlm : lb ≤ lb := Nat.le_refl _
    have HBEL := Lib.hid (show Below w.heap.size w ((w.alloc (.cells (madeCells #[Value.int .u32 0] lb) 94)).drew) from (below_alloc w _).drew)
    have HBLK := Lib.hid (show ((w.alloc (.cells (madeCells #[Value.int .u32 0] lb) 94)).drew).heap[w.heap.size]? = some (.cells ((List.replicate lb (0 : Int)).map (Value.int .u32)).toArray 94 (0, 0)) by
      rw [show ((List.replicate lb (0 : Int)).map (Value.int .u32)).toArray = madeCells #[Value.int .u32 0] lb by rw [← made_list]]
      exact heap_alloc_new w _)
    have HLEN := Lib.hid (show ((D x.natAbs).map (Value.int .u32)).length = Nat.min la lb by rw [List.length_map, HLA.out]; exact (Nat.min_eq_left (by omega)).symm)
    have HFIT := Lib.hid (show 0 + ((D x.natAbs).map (Value.int .u32)).length ≤ ((List.replicate lb (0 : Int)).map (Value.int .u32)).length by rw [List.length_map, List.length_map, List.length_replicate, HLA.out]; omega)
    have HONE := Lib.hid (show ∀ v ∈ (D x.natAbs).map (Value.int .u32), v.oneCell' = true by intro v hv; obtain ⟨u, _, rfl⟩ := List.mem_map.1 hv; rfl)
    have HPOS := Lib.hid (show 0 < ((D x.natAbs).map (Value.int .u32)).length → ∃ ad, A = some ad ∧ ∀ j v, ((D x.natAbs).map (Value.int .u32))[j]? = some v → ((w.alloc (.cells (madeCells #[Value.int .u32 0] lb) 94)).drew).cell? (ad.add j) = some v by
      intro hpos
      rw [List.length_map] at hpos
      have hC := HM.out.1
      obtain ⟨ad, had, _⟩ := Kd.at_int hC 0 (by omega) (by omega)
      subst had
      refine ⟨ad, rfl, fun j v hj => ?_⟩
      rw [List.getElem?_map] at hj
      have hjl : j < (D x.natAbs).length := by
        rcases Nat.lt_or_ge j (D x.natAbs).length with h | h
        · exact h
        · rw [List.getElem?_eq_none h] at hj; cases hj
      obtain ⟨ad', had', hc'⟩ := Kd.at_int hC (j : Int) (by omega) (by omega)
      cases had'
      rw [Int.toNat_natCast, rdN] at hc'
      rw [List.getElem?_eq_getElem hjl, Option.map_some] at hj
      cases hj
      rw [getD_lt hjl] at hc'
      exact (HBEL.out.cell (World.block_lt_of_cell? w _ hc')).trans hc')
    go_enter Try.func70, Try.ntmps70
    go_wp2
    go_region
    clear hmk
    go_wp2_with ((with_reducible refine gate_builtin (b := .copy) (xs := #[.tmp 22, .tmp 26]) rfl ?_); refine wpList_copy_splice rfl (.tmp 22) (.tmp 26) 55 55 rfl 94 Try.underlying55 sizeU (some ⟨w.heap.size, 0, none⟩) A lb lb la c rfl rfl w.heap.size 0 ((List.replicate lb (0 : Int)).map (Value.int .u32)) 94 HBLK.out ((D x.natAbs).map (Value.int .u32)) HLEN.out (fun h_ => ⟨rfl, HPOS.out h_⟩) HFIT.out HONE.out w.heap.size w HBEL.out (Nat.le_refl _) ?_; clear HBLK HLEN HPOS HFIT HONE HBEL; intro w3 hblk hbel; have HB3 := Lib.hid hblk.out; have HBL := Lib.hid hbel; have j1' := (hbel.cell (p := ⟨s, 1, none⟩) hs).trans j1; clear hblk hbel)
    go_loopw [33] (fun i wr => ∃ (k : Nat) (ys : List Int), i = .int .i64 k ∧ k ≤ lb ∧ Hid (OrTo x.natAbs y.natAbs lb k ys) ∧ Hid (wr.heap[w.heap.size]? = some (.cells (ys.map (Value.int .u32)).toArray 94 (0, 0))) ∧ Hid (Below w.heap.size w wr)) (fun i _ => lb - (intOf i).toNat)
    case atStart =>
      have HMA := HM.out
      refine ⟨0, D x.natAbs ++ List.replicate (lb - (D x.natAbs).length) 0, rfl, by omega, Lib.hid ⟨by rw [List.length_append, List.length_replicate, HLA.out]; omega, fun j hj => by omega, fun j _ => append_zeros_getD _ _ _⟩, Lib.hid ?_, HBL⟩
      have := HB3.out
      rw [splice_list (by rw [HLA.out]; omega)] at this
      exact this
    case round =>
      obtain ⟨k, ys, rfl, hk, HO, HW, HBR⟩ := hrel
      by_cases hkb : k < lb
      · obtain ⟨ad, hBad, hcell⟩ := Kd.at_int HNN.out.1 (k : Int) (by omega) (by rw [HLB.out]; omega)
        subst hBad
        rw [Int.toNat_natCast, rdN] at hcell
        have hcell' := (HBR.out.cell (World.block_lt_of_cell? w _ hcell)).trans hcell
        clear hcell
        have hyl := HO.out.1
        have hrow := blk_cell HW.out k
        have hfro := blk_frozen HW.out k
        have hyk : (ys.map (Value.int .u32)).toArray[k]? = some (.int .u32 ((D x.natAbs).getD k 0)) := by
          rw [List.getElem?_toArray, List.getElem?_map, List.getElem?_eq_getElem (by omega), ← HO.out.2.2 k (Nat.le_refl _), getD_lt (by omega)]; rfl
        rw [hyk] at hrow
        have HS := Lib.hid (HO.out.step (by omega))
        have hnext : ((wr.setCell ⟨w.heap.size, k, none⟩ (.int .u32 (bits .or .u32 ((D x.natAbs).getD k 0) ((D y.natAbs).getD k 0)))).heap[w.heap.size]?) = some (.cells ((ys.set k (bits .or .u32 ((D x.natAbs).getD k 0) ((D y.natAbs).getD k 0))).map (Value.int .u32)).toArray 94 (0, 0)) := by
          rw [blk_set HW.out k, nums_set]
        have HNX := Lib.hid hnext
        have HBN := Lib.hid (HBR.out.setCell (p := ⟨w.heap.size, k, none⟩) (Nat.le_refl _) (.int .u32 (bits .or .u32 ((D x.natAbs).getD k 0) ((D y.natAbs).getD k 0))))
        clear hnext hyk hyl HO HW HBR
        generalize (D x.natAbs).getD k 0 = u at *
        generalize (D y.natAbs).getD k 0 = v at *
        go_wp2
        go_roundw
        case rel => exact ⟨k + 1, _, by go_num, by omega, HS, HNX, HBN⟩
        case measure => simp [intOf]; omega
      · obtain rfl : lb = k := by omega
        have HC := Lib.hid (HF.out lb ys wr Hlb.out HO.out HW.out HBR.out)
        clear HO HW HBR
        go_wp2_with (go_at_call 62; refine HC.out.mono ?_; rintro e w2 ⟨rfl, hz2, hg2⟩; have HE := Lib.hid (show Puts w p ((x.natAbs ||| y.natAbs : Nat) : Int) _ w2 from ⟨rfl, hz2, hg2⟩); clear hz2 hg2)
        go_ret
        exact HE.out
  · have hmk := run_make_row' (P := Try.prog) 55 94 (.int .u32 0) 4 Try.underlying55 infoU rfl .i64 .i64 la (by omega) (by omega)
    have hla : la = max la lb := by omega
    have Hla := Lib.hid hla
    clear hla
    have hlm : lb ≤ la := by omega
    have HBEL := Lib.hid (show Below w.heap.size w ((w.alloc (.cells (madeCells #[Value.int .u32 0] la) 94)).drew) from (below_alloc w _).drew)
    have HBLK := Lib.hid (show ((w.alloc (.cells (madeCells #[Value.int .u32 0] la) 94)).drew).heap[w.heap.size]? = some (.cells ((List.replicate la (0 : Int)).map (Value.int .u32)).toArray 94 (0, 0)) by
      rw [show ((List.replicate la (0 : Int)).map (Value.int .u32)).toArray = madeCells #[Value.int .u32 0] la by rw [← made_list]]
      exact heap_alloc_new w _)
    have HLEN := Lib.hid (show ((D x.natAbs).map (Value.int .u32)).length = Nat.min la la by rw [List.length_map, HLA.out]; exact (Nat.min_eq_left (by omega)).symm)
    have HFIT := Lib.hid (show 0 + ((D x.natAbs).map (Value.int .u32)).length ≤ ((List.replicate la (0 : Int)).map (Value.int .u32)).length by rw [List.length_map, List.length_map, List.length_replicate, HLA.out]; omega)
    have HONE := Lib.hid (show ∀ v ∈ (D x.natAbs).map (Value.int .u32), v.oneCell' = true by intro v hv; obtain ⟨u, _, rfl⟩ := List.mem_map.1 hv; rfl)
    have HPOS := Lib.hid (show 0 < ((D x.natAbs).map (Value.int .u32)).length → ∃ ad, A = some ad ∧ ∀ j v, ((D x.natAbs).map (Value.int .u32))[j]? = some v → ((w.alloc (.cells (madeCells #[Value.int .u32 0] la) 94)).drew).cell? (ad.add j) = some v by
      intro hpos
      rw [List.length_map] at hpos
      have hC := HM.out.1
      obtain ⟨ad, had, _⟩ := Kd.at_int hC 0 (by omega) (by omega)
      subst had
      refine ⟨ad, rfl, fun j v hj => ?_⟩
      rw [List.getElem?_map] at hj
      have hjl : j < (D x.natAbs).length := by
        rcases Nat.lt_or_ge j (D x.natAbs).length with h | h
        · exact h
        · rw [List.getElem?_eq_none h] at hj; cases hj
      obtain ⟨ad', had', hc'⟩ := Kd.at_int hC (j : Int) (by omega) (by omega)
      cases had'
      rw [Int.toNat_natCast, rdN] at hc'
      rw [List.getElem?_eq_getElem hjl, Option.map_some] at hj
      cases hj
      rw [getD_lt hjl] at hc'
      exact (HBEL.out.cell (World.block_lt_of_cell? w _ hc')).trans hc')
    go_enter Try.func70, Try.ntmps70
    go_wp2
    go_region
    clear hmk
    go_wp2_with ((with_reducible refine gate_builtin (b := .copy) (xs := #[.tmp 22, .tmp 26]) rfl ?_); refine wpList_copy_splice rfl (.tmp 22) (.tmp 26) 55 55 rfl 94 Try.underlying55 sizeU (some ⟨w.heap.size, 0, none⟩) A la la la c rfl rfl w.heap.size 0 ((List.replicate la (0 : Int)).map (Value.int .u32)) 94 HBLK.out ((D x.natAbs).map (Value.int .u32)) HLEN.out (fun h_ => ⟨rfl, HPOS.out h_⟩) HFIT.out HONE.out w.heap.size w HBEL.out (Nat.le_refl _) ?_; clear HBLK HLEN HPOS HFIT HONE HBEL; intro w3 hblk hbel; have HB3 := Lib.hid hblk.out; have HBL := Lib.hid hbel; have j1' := (hbel.cell (p := ⟨s, 1, none⟩) hs).trans j1; clear hblk hbel)
    go_loopw [33] (fun i wr => ∃ (k : Nat) (ys : List Int), i = .int .i64 k ∧ k ≤ lb ∧ Hid (OrTo x.natAbs y.natAbs la k ys) ∧ Hid (wr.heap[w.heap.size]? = some (.cells (ys.map (Value.int .u32)).toArray 94 (0, 0))) ∧ Hid (Below w.heap.size w wr)) (fun i _ => lb - (intOf i).toNat)
    case atStart =>
      have HMA := HM.out
      refine ⟨0, D x.natAbs ++ List.replicate (la - (D x.natAbs).length) 0, rfl, by omega, Lib.hid ⟨by rw [List.length_append, List.length_replicate, HLA.out]; omega, fun j hj => by omega, fun j _ => append_zeros_getD _ _ _⟩, Lib.hid ?_, HBL⟩
      have := HB3.out
      rw [splice_list (by rw [HLA.out]; omega)] at this
      exact this
    case round =>
      obtain ⟨k, ys, rfl, hk, HO, HW, HBR⟩ := hrel
      by_cases hkb : k < lb
      · obtain ⟨ad, hBad, hcell⟩ := Kd.at_int HNN.out.1 (k : Int) (by omega) (by rw [HLB.out]; omega)
        subst hBad
        rw [Int.toNat_natCast, rdN] at hcell
        have hcell' := (HBR.out.cell (World.block_lt_of_cell? w _ hcell)).trans hcell
        clear hcell
        have hyl := HO.out.1
        have hrow := blk_cell HW.out k
        have hfro := blk_frozen HW.out k
        have hyk : (ys.map (Value.int .u32)).toArray[k]? = some (.int .u32 ((D x.natAbs).getD k 0)) := by
          rw [List.getElem?_toArray, List.getElem?_map, List.getElem?_eq_getElem (by omega), ← HO.out.2.2 k (Nat.le_refl _), getD_lt (by omega)]; rfl
        rw [hyk] at hrow
        have HS := Lib.hid (HO.out.step (by omega))
        have hnext : ((wr.setCell ⟨w.heap.size, k, none⟩ (.int .u32 (bits .or .u32 ((D x.natAbs).getD k 0) ((D y.natAbs).getD k 0)))).heap[w.heap.size]?) = some (.cells ((ys.set k (bits .or .u32 ((D x.natAbs).getD k 0) ((D y.natAbs).getD k 0))).map (Value.int .u32)).toArray 94 (0, 0)) := by
          rw [blk_set HW.out k, nums_set]
        have HNX := Lib.hid hnext
        have HBN := Lib.hid (HBR.out.setCell (p := ⟨w.heap.size, k, none⟩) (Nat.le_refl _) (.int .u32 (bits .or .u32 ((D x.natAbs).getD k 0) ((D y.natAbs).getD k 0))))
        clear hnext hyk hyl HO HW HBR
        generalize (D x.natAbs).getD k 0 = u at *
        generalize (D y.natAbs).getD k 0 = v at *
        go_wp2
        go_roundw
        case rel => exact ⟨k + 1, _, by go_num, by omega, HS, HNX, HBN⟩
        case measure => simp [intOf]; omega
      · obtain rfl : lb = k := by omega
        have HC := Lib.hid (HF.out la ys wr Hla.out HO.out HW.out HBR.out)
        clear HO HW HBR
        go_wp2_with (go_at_call 62; refine HC.out.mono ?_; rintro e w2 ⟨rfl, hz2, hg2⟩; have HE := Lib.hid (show Puts w p ((x.natAbs ||| y.natAbs : Nat) : Int) _ w2 from ⟨rfl, hz2, hg2⟩); clear hz2 hg2)
        go_ret
        exact HE.out
end Go.Proofs.Ythanlckjfghnkaa.Mf
end
section
set_option linter.unusedVariables false
set_option linter.unusedSimpArgs false
namespace Go.Proofs.Ythanlckjfghnkaa.Mg
open Go.RowKit Go.Proofs.YthanlckjfghnkaaW.PrintWords Go.Proofs.Ythanlckjfghnkaa.PW Go.Proofs.Ythanlckjfghnkaa.Pc Go.Proofs.Ythanlckjfghnkaa.Ma Go.Proofs.Ythanlckjfghnkaa.Mb Go.Proofs.Ythanlckjfghnkaa.Mc Go.Proofs.Ythanlckjfghnkaa.Md Go.Proofs.Ythanlckjfghnkaa.Me Go.Proofs.Ythanlckjfghnkaa.Mf Dg
def hiv (l : List Int) (k : Nat) : Int := val 16777216 (l.drop k)
theorem hiv_nonneg {l : List Int} (h : Dig 16777216 l) (k : Nat) : 0 ≤ hiv l k := val_nonneg (h.drop k)
theorem hiv_blN {l : List Int} (h : Dig 16777216 l) (N : Nat) (hl : 24 * l.length ≤ N) (k : Nat) : bl (hiv l k).natAbs ≤ N := by
  apply bl_le
  have h1 := val_lt (by decide) (h.drop k)
  have h0 := hiv_nonneg h k
  have h2 : (16777216 : Nat) ^ (l.drop k).length ≤ 2 ^ N := by
    rw [show (16777216 : Nat) = 2 ^ 24 from rfl, ← Nat.pow_mul]
    exact Nat.pow_le_pow_right (by decide) (by rw [List.length_drop]; omega)
  have h3 : ((16777216 : Nat) : Int) ^ (l.drop k).length = ((16777216 ^ (l.drop k).length : Nat) : Int) := by simp
  unfold hiv at *
  rw [h3] at h1
  exact Nat.lt_of_lt_of_le (by omega) h2
theorem hiv_bl {l : List Int} (h : Dig 16777216 l) (hl : l.length ≤ 100) (k : Nat) : bl (hiv l k).natAbs ≤ 2400 := hiv_blN h 2400 (by omega) k
theorem hiv_step {l : List Int} (h : Dig 16777216 l) (k : Nat) : hiv l k = ((((hiv l (k + 1)) * 2 ^ 24).natAbs ||| (l.getD k 0).natAbs : Nat) : Int) := by
  have h0 := hiv_nonneg h (k + 1)
  have hd := h.all0 (by decide) k
  have e : hiv l k = l.getD k 0 + 16777216 * hiv l (k + 1) := val_drop' l k
  obtain ⟨a, ha⟩ := Int.eq_ofNat_of_zero_le h0
  obtain ⟨d, hd'⟩ := Int.eq_ofNat_of_zero_le hd.1
  have hdl : d < 16777216 := by have := hd.2; omega
  rw [e, ha, hd']
  have e2 : ((a : Int) * 2 ^ 24).natAbs = 2 ^ 24 * a := by
    have : ((a : Int) * 2 ^ 24) = ((2 ^ 24 * a : Nat) : Int) := by simp [Int.mul_comm]
    rw [this, Int.natAbs_natCast]
  rw [e2, Int.natAbs_natCast, ← Nat.two_pow_add_eq_or_of_lt (i := 24) hdl a]
  omega
theorem below_grownB {w w1 w2 : World} {g : Nat} (h : Below g w w1) (hg : g ≤ w1.heap.size) (k : w1.grownBy w2 (some g)) : Below g w w2 :=
  h.trans ⟨k.os, k.tape, k.output, k.size, fun i hi => k.block i (by omega) (by simp; omega)⟩
theorem below_then0 {w w1 w2 : World} (h : Below w.heap.size w w1) (k : Below w.heap.size w1 w2) : Below w.heap.size w w2 := h.trans k
set_option maxHeartbeats 1600000 in
theorem toBig {w : World} {s : Int} {A : Option Addr} {c : Nat} {l : List Int} (hC : (Kd.int .i64).C w A l.length l) (hd : Dig 16777216 l) (hl : l.length ≤ 100) :
    Calls Try.prog 32 #[.agg #[.int .i64 s, .slice A l.length c]] w (News w (if s < 0 then -(val 16777216 l) else val 16777216 l)) := by
  obtain ⟨W1, hW1⟩ : ∃ W1, W1 = w.alloc (.cells #[.int .i64 s, .slice A l.length c] 26) := ⟨_, rfl⟩
  obtain ⟨W2, hW2⟩ : ∃ W2, W2 = W1.alloc (.cells #[.bool false, .slice none 0 0] 57) := ⟨_, rfl⟩
  have hs1 : W1.heap.size = w.heap.size + 1 := by rw [hW1]; simp
  have hb1 : Below w.heap.size w W1 := by rw [hW1]; exact below_alloc w _
  have hb2 : Below W1.heap.size W1 W2 := by rw [hW2]; exact below_alloc W1 _
  have hb02 : Below w.heap.size w W2 := below_then hb1 hb2
  have hz2 : Z W2 W1.heap.size 0 := by rw [hW2]; exact Z.new W1
  have hbox : W1.heap[w.heap.size]? = some (.cells #[.int .i64 s, .slice A l.length c] 26 (0, 0)) := by rw [hW1]; exact heap_alloc_new w _
  have hbox2 := (hb2.block w.heap.size (by omega)).trans hbox
  -- what a round knows
  have hcell : ∀ wr : World, Below (w.heap.size + 1) W2 wr → (wr.cell? ⟨w.heap.size, 0, none⟩ = some (.int .i64 s) ∧ wr.cell? ⟨w.heap.size, 1, none⟩ = some (.slice A l.length c)) := by
    intro wr h
    have := (h.block w.heap.size (by omega)).trans hbox2
    exact ⟨blk_cell this 0, blk_cell this 1⟩
  have hlimb : ∀ (wr : World) (k : Nat), k < l.length → Below (w.heap.size + 1) W2 wr → ∃ ad, A = some ad ∧ wr.cell? (ad.add k) = some (.int .i64 (l.getD k 0)) := by
    intro wr k hk h
    obtain ⟨ad, hA, hc⟩ := Kd.at_int hC (k : Int) (by omega) (by omega)
    rw [Int.toNat_natCast, rdN] at hc
    have hlt := World.block_lt_of_cell? w _ hc
    exact ⟨ad, hA, ((h.mono (by omega)).cell hlt).trans ((hb02.cell hlt).trans hc)⟩
  have hW : W2 = (w.alloc (.cells #[.int .i64 s, .slice A l.length c] 26)).alloc (.cells #[.bool false, .slice none 0 0] 57) := by rw [hW2, hW1]
  rw [hs1] at hz2
  have HW := Lib.hid hW
  have HC := Lib.hid hcell
  have HL := Lib.hid hlimb
  have H02 := Lib.hid hb02
  have HZ2 := Lib.hid hz2
  have HD := Lib.hid hd
  have HBX := Lib.hid hbox2
  clear hW hW1 hW2 hcell hlimb hb02 hz2 hbox hbox2 hb1 hb2 hs1 hC hd
  clear W1
  -- one round: shifted, a limb put in
  have hsh : ∀ (wr : World) (k : Nat), Z wr (w.heap.size + 1) (hiv l (k + 1)) → Calls Try.prog 54 #[.pointer (some ⟨w.heap.size + 1, 0, none⟩), .pointer (some ⟨w.heap.size + 1, 0, none⟩), .int .u64 24] wr (Puts wr (w.heap.size + 1) (hiv l (k + 1) * 2 ^ 24)) := by
    intro wr k hz
    have := hiv_bl HD.out hl (k + 1)
    exact lsh (n := 24) hz.blk hz (by omega) (by omega)
  have hor : ∀ (wr : World) (k g : Nat), Z wr (w.heap.size + 1) (hiv l (k + 1) * 2 ^ 24) → Z wr g (l.getD k 0) → Calls Try.prog 70 #[.pointer (some ⟨w.heap.size + 1, 0, none⟩), .pointer (some ⟨w.heap.size + 1, 0, none⟩), .pointer (some ⟨g, 0, none⟩)] wr (Puts wr (w.heap.size + 1) (hiv l k)) := by
    intro wr k g hz hg
    have h1 := hiv_bl HD.out hl (k + 1)
    have hx := HD.out.all0 (by decide) k
    have h3 : bl (hiv l (k + 1) * 2 ^ 24).natAbs ≤ 536870912 := by
      rw [Int.natAbs_mul, show ((2 : Int) ^ 24).natAbs = 2 ^ 24 from rfl]
      have := bl_shift_le (hiv l (k + 1)).natAbs 24
      omega
    have h4 : bl (l.getD k 0).natAbs ≤ 536870912 := Nat.le_trans (bl_le (k := 24) (by omega)) (by omega)
    rw [hiv_step HD.out k]
    exact orr hz.blk hz hg h3 h4
  have hnew : ∀ (wr : World) (k : Nat), Calls Try.prog 63 #[.int .i64 (l.getD k 0)] wr (News wr (l.getD k 0)) := by
    intro wr k
    have hx := HD.out.all0 (by decide) k
    exact newInt (by omega) (by omega)
  have hfin : ∀ wr, Z wr (w.heap.size + 1) (hiv l 0) → Calls Try.prog 71 #[.pointer (some ⟨w.heap.size + 1, 0, none⟩), .pointer (some ⟨w.heap.size + 1, 0, none⟩)] wr (Puts wr (w.heap.size + 1) (-(hiv l 0))) := by
    intro wr hz
    have := hiv_bl HD.out hl 0
    exact neg hz.blk hz (by omega)
  have hout : ∀ (wr : World) (z : Int), Below (w.heap.size + 1) W2 wr → Z wr (w.heap.size + 1) z → News w z (.returned (.pointer (some ⟨w.heap.size + 1, 0, none⟩))) wr := by
    intro wr z hb hz
    exact ⟨_, rfl, hz, by omega, below_then0 H02.out (hb.mono (by omega))⟩
  have HSH := Lib.hid hsh
  have HOR := Lib.hid hor
  have HNW := Lib.hid hnew
  have HFN := Lib.hid hfin
  have HOUT := Lib.hid hout
  clear hsh hor hnew hfin hout
  have hv0 : hiv l 0 = val 16777216 l := by unfold hiv; rw [List.drop_zero]
  rw [← hv0]
  clear hv0
  by_cases hneg : s < 0
  all_goals
    go_enter Try.func32, Try.ntmps32
    go_wp2_with fail
    go_loopw [4] (fun i wr => ∃ k : Nat, i = .int .i64 ((k : Int) - 1) ∧ k ≤ l.length ∧ Hid (Z wr (w.heap.size + 1) (hiv l k)) ∧ Hid (Below (w.heap.size + 1) W2 wr)) (fun i _ => (intOf i + 1).toNat)
    case atStart =>
      refine ⟨l.length, rfl, Nat.le_refl _, Lib.hid ?_, Lib.hid ?_⟩
      · rw [← HW.out, show hiv l l.length = 0 by unfold hiv; rw [List.drop_length]; rfl]; exact HZ2.out
      · rw [← HW.out]; exact Below.refl _ _
    case round =>
      obtain ⟨k, rfl, hk, HZ, HB⟩ := hrel
      cases k with
      | zero =>
        obtain ⟨c0, c1⟩ := HC.out wr HB.out
        have HO := Lib.hid (HOUT.out wr _ HB.out HZ.out)
        have HN := Lib.hid (HFN.out wr HZ.out)
        have hlt : ((0 : Nat) : Int) - 1 = -1 := rfl
        rw [hlt]
        clear hlt
        go_wp2_with (first | (go_at_call 71; refine HN.out.mono ?_; rintro e w2 ⟨rfl, hz2, hg2⟩; have HO := Lib.hid (HOUT.out w2 _ (below_grownB HB.out (Nat.le_of_lt HZ.out.lt) hg2) hz2); clear hz2 hg2))
        go_ret
        exact HO.out
      | succ k =>
        have hlt : ((k + 1 : Nat) : Int) - 1 = (k : Int) := by omega
        rw [hlt]
        clear hlt
        go_wp2_with fail
        refine (HSH.out wr k HZ.out).mono ?_
        rintro e w2 ⟨rfl, hz2, hg2⟩
        have hb2 := below_grownB HB.out (Nat.le_of_lt HZ.out.lt) hg2
        obtain ⟨c0, c1⟩ := HC.out w2 hb2
        obtain ⟨ad, hA, hl2⟩ := HL.out w2 k (by omega) hb2
        subst hA
        have HZ3 := Lib.hid hz2
        have HB3 := Lib.hid hb2
        clear hz2 hg2 hb2 HZ HB
        go_wp2_with fail
        refine (HNW.out w2 k).mono ?_
        rintro e w3 ⟨g, rfl, hz3, hg3, hb3⟩
        have HZ4 := Lib.hid (HZ3.out.below hb3)
        have HB4 := Lib.hid (HB3.out.trans (hb3.mono (by have := HZ3.out.lt; omega)))
        have HZ5 := Lib.hid hz3
        clear hz3 hg3 hb3 HZ3 HB3 c0 c1 hl2
        go_wp2_with fail
        refine (HOR.out w3 k g HZ4.out HZ5.out).mono ?_
        rintro e w4 ⟨rfl, hz6, hg6⟩
        have HZ6 := Lib.hid hz6
        have HB6 := Lib.hid (below_grownB HB4.out (Nat.le_of_lt HZ4.out.lt) hg6)
        clear hz6 hg6
        go_wp2
        go_roundw
        case rel => exact ⟨k, rfl, by omega, HZ6, HB6⟩
        case measure => (simp [intOf]) <;> omega
end Go.Proofs.Ythanlckjfghnkaa.Mg
end
section
set_option linter.unusedVariables false
set_option linter.unusedSimpArgs false
namespace Go.Proofs.Ythanlckjfghnkaa.Mh
open Go.RowKit Go.Proofs.YthanlckjfghnkaaW.PrintWords Go.Proofs.Ythanlckjfghnkaa.PW Go.Proofs.Ythanlckjfghnkaa.Pc Go.Proofs.Ythanlckjfghnkaa.Pb Go.Proofs.Ythanlckjfghnkaa.Pw Go.Proofs.Ythanlckjfghnkaa.Ma Go.Proofs.Ythanlckjfghnkaa.Mb Go.Proofs.Ythanlckjfghnkaa.Mc Go.Proofs.Ythanlckjfghnkaa.Md Go.Proofs.Ythanlckjfghnkaa.Me Go.Proofs.Ythanlckjfghnkaa.Mg Dg
theorem cIs {w : World} {s : Int} {A : Option Addr} {c : Nat} {l : List Int} (hC : (Kd.int .i64).C w A l.length l) (hc : l.length ≤ c) (hm : l.length ≤ 9223372036854775807) :
    Calls Try.prog 29 #[.agg #[.int .i64 s, .slice A l.length c]] w fun e w' => e = .returned (.bool (isW s l)) ∧ Below w.heap.size w w' := by
  obtain ⟨k, hk⟩ := (iIs s l hm).rounds
  exact impl_IsWhole.calls k s A c l _ w hC hc hk
theorem cBig {w : World} {s : Int} {A : Option Addr} {c : Nat} {l : List Int} (hC : (Kd.int .i64).C w A l.length l) (h : isW s l = true) :
    Calls Try.prog 32 #[.agg #[.int .i64 s, .slice A l.length c]] w (News w (wv s l)) := by
  obtain ⟨hd, hl, _, _⟩ := isW_spec h
  exact toBig hC hd hl
theorem C_at {w w1 : World} {A : Option Addr} {l : List Int} (hC : (Kd.int .i64).C w A l.length l) (hb : Below w.heap.size w w1) : (Kd.int .i64).C w1 A l.length l := Kd.C_below hC hb
end Go.Proofs.Ythanlckjfghnkaa.Mh
end
section
set_option linter.unusedVariables false
set_option linter.unusedSimpArgs false
namespace Go.Proofs.Ythanlckjfghnkaa.Mi
open Go.RowKit Go.Proofs.YthanlckjfghnkaaW.PrintWords Go.Proofs.Ythanlckjfghnkaa.PW Go.Proofs.Ythanlckjfghnkaa.Pc Go.Proofs.Ythanlckjfghnkaa.Ma Go.Proofs.Ythanlckjfghnkaa.Mb Go.Proofs.Ythanlckjfghnkaa.Mc Go.Proofs.Ythanlckjfghnkaa.Md Go.Proofs.Ythanlckjfghnkaa.Me Dg
open Pm (sgn)
set_option maxHeartbeats 800000 in
theorem cmp {w : World} {p q : Nat} {x y : Int} (hx : Z w p x) (hy : Z w q y) (h1 : bl x.natAbs ≤ 1073741823) (h2 : bl y.natAbs ≤ 1073741823) :
    Calls Try.prog 68 #[.pointer (some ⟨p, 0, none⟩), .pointer (some ⟨q, 0, none⟩)] w (Tells w (.int .i64 (sgn (x - y)))) := by
  obtain ⟨A, c, k0, k1, hm, hp⟩ := Z.open hx
  obtain ⟨B, d, j0, j1, hn, hq⟩ := Z.open hy
  have hC := fun (W : World) (hb : Below w.heap.size w W) => cCmp (hm.below hb) (hn.below hb) (by omega) (by omega)
  have hD := fun (W : World) (hb : Below w.heap.size w W) => cCmp (hn.below hb) (hm.below hb) (by omega) (by omega)
  by_cases hxn : x < 0 <;> by_cases hyn : y < 0
  · have e : sgn ((y.natAbs : Int) - x.natAbs) = sgn (x - y) := by congr 1; omega
    rw [e] at hD
    rw [show decide (x < 0) = true by simpa using hxn] at k0
    rw [show decide (y < 0) = true by simpa using hyn] at j0
    have HD := Lib.hid hD
    clear hC hD e hxn hyn h1 h2 hm hn hx hy
    go_enter Try.func68, Try.ntmps68
    go_wp2
    go_quiet ((go_at_call 94; exact Calls.quiet_of (HD.out _ (below_drawn _))))
    go_wp2
    go_ret
    exact ⟨rfl, _, rfl⟩
  · have e : sgn (x - y) = -1 := by unfold sgn; rw [if_pos (by omega)]
    rw [e]
    rw [show decide (x < 0) = true by simpa using hxn] at k0
    rw [show decide (y < 0) = false by simpa using hyn] at j0
    clear hC hD e hxn hyn h1 h2 hm hn hx hy
    go_enter Try.func68, Try.ntmps68
    go_wp2
    go_ret
    exact ⟨rfl, 0, rfl⟩
  · have e : sgn (x - y) = 1 := by unfold sgn; rw [if_neg (by omega), if_neg (by omega)]
    rw [e]
    rw [show decide (x < 0) = false by simpa using hxn] at k0
    rw [show decide (y < 0) = true by simpa using hyn] at j0
    clear hC hD e hxn hyn h1 h2 hm hn hx hy
    go_enter Try.func68, Try.ntmps68
    go_wp2
    go_ret
    exact ⟨rfl, 0, rfl⟩
  · have e : sgn ((x.natAbs : Int) - y.natAbs) = sgn (x - y) := by congr 1; omega
    rw [e] at hC
    rw [show decide (x < 0) = false by simpa using hxn] at k0
    rw [show decide (y < 0) = false by simpa using hyn] at j0
    have HC := Lib.hid hC
    clear hC hD e hxn hyn h1 h2 hm hn hx hy
    go_enter Try.func68, Try.ntmps68
    go_wp2
    go_quiet ((go_at_call 94; exact Calls.quiet_of (HC.out _ (below_drawn _))))
    go_wp2
    go_ret
    exact ⟨rfl, _, rfl⟩
def sv (n : Bool) (m : Nat) : Int := if n = true then -(m : Int) else m
theorem sv_abs (z : Int) : sv (decide (z < 0)) z.natAbs = z := natAbs_if z
set_option maxHeartbeats 1600000 in
theorem plus {w : World} {p q : Nat} {x : Int} {neg : Bool} {B : Option Addr} {d m : Nat} (hp : Blk w p) (hx : Z w q x) (hn : Mg w B d (D m)) (h1 : bl x.natAbs ≤ 536870912) (h2 : bl m ≤ 536870912) :
    Calls Try.prog 93 #[.pointer (some ⟨p, 0, none⟩), .pointer (some ⟨q, 0, none⟩), .bool neg, .slice B (D m).length d] w (Puts w p (x + sv neg m)) := by
  obtain ⟨A, c, k0, k1, hm, hq⟩ := Z.open hx
  have hadd := bl_add_le x.natAbs m
  have hA := fun (W : World) (hb : Below w.heap.size w W) => (cAdd (hm.below hb) (hn.below hb) (by omega) (by omega)).mono fun e w' h => GivesMg.of hb h
  have hC := fun (W : World) (hb : Below w.heap.size w W) => cCmp (hm.below hb) (hn.below hb) (by omega) (by omega)
  by_cases hs : decide (x < 0) = neg
  · -- one sign
    have e : (if neg = true then -((x.natAbs + m : Nat) : Int) else ((x.natAbs + m : Nat) : Int)) = x + sv neg m := by
      rw [← sv_abs x, hs]; unfold sv
      cases neg <;> simp <;> omega
    have hP := fun (w1 : World) (A' : Option Addr) (c' : Nat) h1 h2 => put_of (w1 := w1) (A := A') (c := c') (neg := neg) (n := x.natAbs + m) hp h1 h2 (by omega)
    rw [e] at hP
    rw [hs] at k0
    have HP := Lib.hid hP
    have HA := Lib.hid hA
    clear hA hC hP e hs hadd h1 h2 hm hn hx hp
    cases neg
    all_goals
      go_enter Try.func93, Try.ntmps93
      go_wp2_with fail
      refine (HA.out _ (Below.refl _ _)).mono ?_
      rintro e w1 ⟨A', c', rfl, hm', hb'⟩
      have HPM := Lib.hid (HP.out w1 A' c' hb' hm')
      clear hm' hb'
      go_wp2_with fail
      refine HPM.out.mono ?_
      rintro e w2 ⟨rfl, hz2, hg2⟩
      have HE := Lib.hid (show Puts w p _ _ w2 from ⟨rfl, hz2, hg2⟩)
      clear hz2 hg2
      go_wp2
      go_ret
      exact HE.out
  · have hneq : neg = !decide (x < 0) := by cases neg <;> cases h : decide (x < 0) <;> simp_all
    by_cases hge : m ≤ x.natAbs
    · have hS := fun (W : World) (hb : Below w.heap.size w W) => (cSub (hm.below hb) (hn.below hb) (by omega) hge).mono fun e w' h => GivesMg.of hb h
      have hmo := bl_mono (Nat.sub_le x.natAbs m)
      have e : (if decide (x < 0) = true then -((x.natAbs - m : Nat) : Int) else ((x.natAbs - m : Nat) : Int)) = x + sv neg m := by
        rw [hneq]; unfold sv
        by_cases h : x < 0 <;> simp [h] <;> omega
      have hP := fun (w1 : World) (A' : Option Addr) (c' : Nat) h1 h2 => put_of (w1 := w1) (A := A') (c := c') (neg := decide (x < 0)) (n := x.natAbs - m) hp h1 h2 (by omega)
      rw [e] at hP
      have es : sgn ((x.natAbs : Int) - m) = sgn ((x.natAbs - m : Nat) : Int) := by congr 1; omega
      have es0 : 0 ≤ sgn ((x.natAbs : Int) - m) := by unfold sgn; split <;> (try split) <;> omega
      have HP := Lib.hid hP
      have HS := Lib.hid hS
      have HC := Lib.hid hC
      clear hA hC hP hS e hs hadd h1 h2 hm hn hx hp es hmo hge
      generalize sgn ((x.natAbs : Int) - m) = sg at *
      rw [hneq] at *
      clear hneq
      generalize decide (x < 0) = b at *
      cases b
      all_goals
        go_enter Try.func93, Try.ntmps93
        go_wp2_with fail
        refine (HC.out _ (Below.refl _ _)).mono ?_
        rintro e w1 ⟨rfl, n, rfl⟩
        go_wp2_with fail
        go_region_with (first | (go_at_call 92; refine (HS.out _ (by first | exact below_drawn _ | exact (below_drawn _).drew)).mono ?_; rintro e w1 ⟨A', c', rfl, hm', hb'⟩; have HPM := Lib.hid (HP.out w1 A' c' hb' hm'); have k0' := (hb'.cell (p := ⟨q, 0, none⟩) hq).trans k0; clear hm' hb') | (go_at_call 62; refine HPM.out.mono ?_; rintro e w2 ⟨rfl, hz2, hg2⟩; have HE := Lib.hid (show Puts w p _ _ w2 from ⟨rfl, hz2, hg2⟩); clear hz2 hg2))
        all_goals go_wp2
        all_goals go_ret
        all_goals exact HE.out
    · have hS := fun (W : World) (hb : Below w.heap.size w W) => (cSub (hn.below hb) (hm.below hb) (by omega) (by omega)).mono fun e w' h => GivesMg.of hb h
      have hmo := bl_mono (Nat.sub_le m x.natAbs)
      have e : (if neg = true then -((m - x.natAbs : Nat) : Int) else ((m - x.natAbs : Nat) : Int)) = x + sv neg m := by
        rw [hneq]; unfold sv
        by_cases h : x < 0 <;> simp [h] <;> omega
      have hP := fun (w1 : World) (A' : Option Addr) (c' : Nat) h1 h2 => put_of (w1 := w1) (A := A') (c := c') (neg := neg) (n := m - x.natAbs) hp h1 h2 (by omega)
      rw [e] at hP
      have es : sgn ((x.natAbs : Int) - m) = -1 := by unfold sgn; rw [if_pos (by omega)]
      rw [es] at hC
      have HP := Lib.hid hP
      have HS := Lib.hid hS
      have HC := Lib.hid hC
      clear hA hC hP hS e hs hadd h1 h2 hm hn hx hp es hmo hge
      rw [hneq] at *
      clear hneq
      generalize decide (x < 0) = b at *
      cases b
      all_goals
        go_enter Try.func93, Try.ntmps93
        go_wp2_with fail
        refine (HC.out _ (Below.refl _ _)).mono ?_
        rintro e w1 ⟨rfl, n, rfl⟩
        go_wp2_with fail
        refine (HS.out _ (below_drawn _)).mono ?_
        rintro e w1 ⟨A', c', rfl, hm', hb'⟩
        have HPM := Lib.hid (HP.out w1 A' c' hb' hm')
        clear hm' hb'
        go_wp2_with fail
        refine HPM.out.mono ?_
        rintro e w2 ⟨rfl, hz2, hg2⟩
        have HE := Lib.hid (show Puts w p _ _ w2 from ⟨rfl, hz2, hg2⟩)
        clear hz2 hg2
        go_wp2
        go_ret
        exact HE.out
end Go.Proofs.Ythanlckjfghnkaa.Mi
end
section
set_option linter.unusedVariables false
set_option linter.unusedSimpArgs false
namespace Go.Proofs.Ythanlckjfghnkaa.Mj
open Go.RowKit Go.Proofs.YthanlckjfghnkaaW.PrintWords Go.Proofs.Ythanlckjfghnkaa.PW Go.Proofs.Ythanlckjfghnkaa.Pc Go.Proofs.Ythanlckjfghnkaa.Ma Go.Proofs.Ythanlckjfghnkaa.Mb Go.Proofs.Ythanlckjfghnkaa.Mc Go.Proofs.Ythanlckjfghnkaa.Md Go.Proofs.Ythanlckjfghnkaa.Me Go.Proofs.Ythanlckjfghnkaa.Mi Dg
open Pm (sgn)
theorem Puts.of {w W w' : World} {p : Nat} {z : Int} {e : Ending} (hb : Below w.heap.size w W) (h : Puts W p z e w') : Puts w p z e w' := Mc.Puts.below hb h
set_option maxHeartbeats 1600000 in
theorem add {w : World} {p q s : Nat} {x y : Int} (hp : Blk w p) (hx : Z w q x) (hy : Z w s y) (h1 : bl x.natAbs ≤ 536870912) (h2 : bl y.natAbs ≤ 536870912) :
    Calls Try.prog 67 #[.pointer (some ⟨p, 0, none⟩), .pointer (some ⟨q, 0, none⟩), .pointer (some ⟨s, 0, none⟩)] w (Puts w p (x + y)) := by
  obtain ⟨B, d, j0, j1, hn, hs⟩ := Z.open hy
  have hP := fun (W : World) (hb : Below w.heap.size w W) => (plus (neg := decide (y < 0)) (hp.below hb) (hx.below hb) (hn.below hb) h1 h2).mono fun e w' h => Puts.of hb h
  rw [sv_abs] at hP
  have HP := Lib.hid hP
  clear hP hn h1 h2 hp hx hy
  generalize decide (y < 0) = b at *
  go_enter Try.func67, Try.ntmps67
  go_wp2
  go_region_with (go_at_call 93; refine (HP.out _ (by first | exact Below.refl _ _ | exact (Below.refl _ _).drew)).mono ?_; rintro e w2 ⟨rfl, hz2, hg2⟩; have HE := Lib.hid (show Puts w p (x + y) _ w2 from ⟨rfl, hz2, hg2⟩); clear hz2 hg2)
  all_goals go_wp2
  all_goals go_ret
  all_goals exact HE.out
end Go.Proofs.Ythanlckjfghnkaa.Mj
end
section
set_option linter.unusedVariables false
set_option linter.unusedSimpArgs false
namespace Go.Proofs.Ythanlckjfghnkaa.Mk
open Go.RowKit Go.Proofs.YthanlckjfghnkaaW.PrintWords Go.Proofs.Ythanlckjfghnkaa.PW Go.Proofs.Ythanlckjfghnkaa.Pc Go.Proofs.Ythanlckjfghnkaa.Ma Go.Proofs.Ythanlckjfghnkaa.Mb Go.Proofs.Ythanlckjfghnkaa.Mc Go.Proofs.Ythanlckjfghnkaa.Md Go.Proofs.Ythanlckjfghnkaa.Me Go.Proofs.Ythanlckjfghnkaa.Mi Go.Proofs.Ythanlckjfghnkaa.Mj Dg
open Pm (sgn)
def lw (n k : Nat) : Int := val 4294967296 (((D n).take 2).drop k)
theorem lw_zero (n : Nat) : lw n 0 = ((n % 18446744073709551616 : Nat) : Int) := by
  unfold lw
  rw [List.drop_zero]
  have := (val_div_mod (by decide) (D_dig n) 2).2
  rw [D_val] at this
  rw [← this]
  rfl
theorem lw_end (n k : Nat) (h : 2 ≤ k ∨ (D n).length ≤ k) : lw n k = 0 := by
  unfold lw
  rw [List.drop_of_length_le (by simp; omega)]
  rfl
theorem lw_bd (n k : Nat) (h : 0 < k) : 0 ≤ lw n k ∧ lw n k < 4294967296 := by
  unfold lw
  have hd := ((D_dig n).take 2).drop k
  have h1 := val_nonneg hd
  have h2 := val_lt (by decide) hd
  refine ⟨h1, ?_⟩
  have h3 : (((D n).take 2).drop k).length ≤ 1 := by simp; omega
  have h4 : ((4294967296 : Nat) : Int) ^ (((D n).take 2).drop k).length ≤ 4294967296 := by
    rcases Nat.lt_or_ge (((D n).take 2).drop k).length 1 with h | h
    · have : (((D n).take 2).drop k).length = 0 := by omega
      rw [this]; decide
    · have : (((D n).take 2).drop k).length = 1 := by omega
      rw [this]; decide
  omega
theorem lw_step (n k : Nat) (h : k < 2) (hk : k < (D n).length) : bits .or .u64 (IntKind.u64.wrap (lw n (k + 1) * 4294967296)) ((D n).getD k 0) = lw n k := by
  have hb := lw_bd n (k + 1) (by omega)
  have hd := (D_dig n).all0 (by decide) k
  have e : lw n k = (D n).getD k 0 + 4294967296 * lw n (k + 1) := by
    unfold lw
    have := val_drop' (B := 4294967296) ((D n).take 2) k
    rw [this]
    congr 1
    simp [List.getD, List.getElem?_take, h]
  rw [Pn.u64_id (by omega) (by omega), e]
  have := Po.or_high (x := (D n).getD k 0) (y := lw n (k + 1)) hd.1 (by omega) hb.1 hb.2
  rw [← this]
  obtain ⟨a, ha⟩ := Int.eq_ofNat_of_zero_le hd.1
  obtain ⟨b, hb'⟩ := Int.eq_ofNat_of_zero_le hb.1
  have hd2 : a < 4294967296 := by have := hd.2; omega
  have hb2 : b < 4294967296 := by have := hb.2; omega
  rw [ha, hb']
  have e2 : (b : Int) * 4294967296 = ((b * 4294967296 : Nat) : Int) := by simp
  have h1 : a < 2 ^ 64 := by omega
  have h2 : b * 4294967296 < 2 ^ 64 := by omega
  rw [e2, (bits_nat .u64 64 (by decide) Po.wraps_u64 _ _ h2 h1).2, (bits_nat .u64 64 (by decide) Po.wraps_u64 _ _ h1 h2).2, Nat.or_comm]
set_option maxHeartbeats 1600000 in
theorem low {w : World} {q : Nat} {z : Int} (hz : Z w q z) : Calls Try.prog 97 #[.pointer (some ⟨q, 0, none⟩)] w fun e w' => e = .returned (.int .u64 ((z.natAbs % 18446744073709551616 : Nat) : Int)) ∧ w = w' := by
  obtain ⟨A, c, k0, k1, hm, hq⟩ := Z.open hz
  have hres := lw_zero z.natAbs
  have hcell : ∀ k, k < (D z.natAbs).length → ∃ ad, A = some ad ∧ w.cell? (ad.add k) = some (.int .u32 ((D z.natAbs).getD k 0)) := fun k hk => by
    obtain ⟨ad, hA, hc⟩ := Kd.at_int hm.1 (k : Int) (by omega) (by omega)
    rw [Int.toNat_natCast, rdN] at hc
    exact ⟨ad, hA, hc⟩
  have hmax : (D z.natAbs).length ≤ 9223372036854775807 := hm.1.2.1
  have hst := fun k h1 h2 => lw_step z.natAbs k h1 h2
  have hen := fun k h => lw_end z.natAbs k h
  have hdd := (D_dig z.natAbs).all0 (by decide)
  have hlb := fun k h => lw_bd z.natAbs k h
  have HR := Lib.hid hres
  have HC := Lib.hid hcell
  have HS := Lib.hid hst
  have HE := Lib.hid hen
  have HD := Lib.hid hdd
  have HLB := Lib.hid hlb
  clear hres hcell hm hz hst hen hdd hlb
  generalize hln : (D z.natAbs).length = n at *
  clear hln
  obtain ⟨m, hm2, hmn, hmm⟩ : ∃ m : Nat, m ≤ 2 ∧ m ≤ n ∧ (2 ≤ m ∨ n ≤ m) := ⟨min n 2, by omega, by omega, by omega⟩
  have hst0 : lw z.natAbs m = 0 := HE.out m hmm
  have HST := Lib.hid hst0
  clear hst0
  by_cases hlt : n < 2
  · obtain rfl : n = m := by omega
    go_enter Try.func97, Try.ntmps97
    go_wp2_with fail
    go_loop [3, 4] (fun u i => ∃ k : Nat, k ≤ n ∧ i = .int .i64 ((k : Int) - 1) ∧ u = .int .u64 (lw z.natAbs k)) (fun _ i => (intOf i + 1).toNat)
    case atStart => exact ⟨n, Nat.le_refl _, rfl, by rw [HST.out]⟩
    case round =>
      obtain ⟨k, hk, rfl, rfl⟩ := hrel
      cases k with
      | zero =>
        have e : ((0 : Nat) : Int) - 1 = -1 := rfl
        rw [e]
        go_wp2
        go_ret
        exact ⟨by show Ending.returned (Value.int .u64 (lw z.natAbs 0)) = _; rw [HR.out]; simp, rfl⟩
      | succ k =>
        have e : ((k + 1 : Nat) : Int) - 1 = (k : Int) := by omega
        rw [e]
        clear e
        obtain ⟨ad, hA, hc⟩ := HC.out k (by omega)
        subst hA
        have hs := Lib.hid (HS.out k (by omega) (by omega))
        have hd := HD.out k
        have hb := HLB.out (k + 1) (by omega)
        have hx := Pn.u64_id (n := lw z.natAbs (k + 1) * 4294967296) (by omega) (by omega)
        have hs2 := hs.out
        rw [hx] at hs2
        have HS2 := Lib.hid hs2
        clear hs hs2 hx
        generalize hl1 : lw z.natAbs (k + 1) = l1 at *
        generalize hd1 : (D z.natAbs).getD k 0 = d1 at *
        clear hl1 hd1
        go_wp2
        go_round
        case rel => exact ⟨k, by omega, rfl, by rw [HS2.out]⟩
        case measure => (simp [intOf]) <;> omega
  · obtain rfl : m = 2 := by omega
    by_cases hn2 : n = 2
    · subst hn2
      go_enter Try.func97, Try.ntmps97
      go_wp2_with fail
      go_loop [3, 4] (fun u i => ∃ k : Nat, k ≤ 2 ∧ i = .int .i64 ((k : Int) - 1) ∧ u = .int .u64 (lw z.natAbs k)) (fun _ i => (intOf i + 1).toNat)
      case atStart => exact ⟨2, Nat.le_refl _, rfl, by rw [HST.out]⟩
      case round =>
        obtain ⟨k, hk, rfl, rfl⟩ := hrel
        cases k with
        | zero =>
          have e : ((0 : Nat) : Int) - 1 = -1 := rfl
          rw [e]
          go_wp2
          go_ret
          exact ⟨by show Ending.returned (Value.int .u64 (lw z.natAbs 0)) = _; rw [HR.out]; simp, rfl⟩
        | succ k =>
          have e : ((k + 1 : Nat) : Int) - 1 = (k : Int) := by omega
          rw [e]
          clear e
          obtain ⟨ad, hA, hc⟩ := HC.out k (by omega)
          subst hA
          have hs := Lib.hid (HS.out k (by omega) (by omega))
          have hd := HD.out k
          have hb := HLB.out (k + 1) (by omega)
          have hx := Pn.u64_id (n := lw z.natAbs (k + 1) * 4294967296) (by omega) (by omega)
          have hs2 := hs.out
          rw [hx] at hs2
          have HS2 := Lib.hid hs2
          clear hs hs2 hx
          generalize hl1 : lw z.natAbs (k + 1) = l1 at *
          generalize hd1 : (D z.natAbs).getD k 0 = d1 at *
          clear hl1 hd1
          go_wp2
          go_round
          case rel => exact ⟨k, by omega, rfl, by rw [HS2.out]⟩
          case measure => (simp [intOf]) <;> omega

    · have hn3 : 2 < n := by omega
      clear hlt
      go_enter Try.func97, Try.ntmps97
      go_wp2_with fail
      go_loop [3, 4] (fun u i => ∃ k : Nat, k ≤ 2 ∧ i = .int .i64 ((k : Int) - 1) ∧ u = .int .u64 (lw z.natAbs k)) (fun _ i => (intOf i + 1).toNat)
      case atStart => exact ⟨2, Nat.le_refl _, rfl, by rw [HST.out]⟩
      case round =>
        obtain ⟨k, hk, rfl, rfl⟩ := hrel
        cases k with
        | zero =>
          have e : ((0 : Nat) : Int) - 1 = -1 := rfl
          rw [e]
          go_wp2
          go_ret
          exact ⟨by show Ending.returned (Value.int .u64 (lw z.natAbs 0)) = _; rw [HR.out]; simp, rfl⟩
        | succ k =>
          have e : ((k + 1 : Nat) : Int) - 1 = (k : Int) := by omega
          rw [e]
          clear e
          obtain ⟨ad, hA, hc⟩ := HC.out k (by omega)
          subst hA
          have hs := Lib.hid (HS.out k (by omega) (by omega))
          have hd := HD.out k
          have hb := HLB.out (k + 1) (by omega)
          have hx := Pn.u64_id (n := lw z.natAbs (k + 1) * 4294967296) (by omega) (by omega)
          have hs2 := hs.out
          rw [hx] at hs2
          have HS2 := Lib.hid hs2
          clear hs hs2 hx
          generalize hl1 : lw z.natAbs (k + 1) = l1 at *
          generalize hd1 : (D z.natAbs).getD k 0 = d1 at *
          clear hl1 hd1
          go_wp2
          go_round
          case rel => exact ⟨k, by omega, rfl, by rw [HS2.out]⟩
          case measure => (simp [intOf]) <;> omega
theorem natAbs_mod {z : Int} (h0 : -9223372036854775808 ≤ z) (h1 : z ≤ 9223372036854775807) : ((z.natAbs % 18446744073709551616 : Nat) : Int) = z.natAbs := by omega
set_option maxHeartbeats 800000 in
theorem int64 {w : World} {q : Nat} {z : Int} (hz : Z w q z) (h0 : -9223372036854775808 ≤ z) (h1 : z ≤ 9223372036854775807) : Calls Try.prog 80 #[.pointer (some ⟨q, 0, none⟩)] w fun e w' => e = .returned (.int .i64 z) ∧ w = w' := by
  obtain ⟨A, c, k0, k1, hm, hq⟩ := Z.open hz
  have hl := low hz
  rw [natAbs_mod h0 h1] at hl
  have HL := Lib.hid hl
  clear hl hm hz
  by_cases hn : z < 0
  · have e : IntKind.i64.wrap (-(IntKind.i64.wrap (z.natAbs : Int))) = z := by rw [IntKind.wrap_i64, IntKind.wrap_i64]; omega
    have e2 : wrap64 (-(wrap64 (z.natAbs : Int))) = z := by unfold wrap64; omega
    rw [show decide (z < 0) = true by simpa using hn] at k0
    have E := Lib.hid e2
    clear e e2 h0 h1 hn
    generalize (z.natAbs : Int) = a at *
    go_enter Try.func80, Try.ntmps80
    go_wp2_with fail
    refine HL.out.mono ?_
    rintro e w1 ⟨rfl, rfl⟩
    go_wp2
    go_ret
    exact ⟨by rw [← E.out]; rfl, rfl⟩
  · have e2 : wrap64 (z.natAbs : Int) = z := by unfold wrap64; omega
    rw [show decide (z < 0) = false by simpa using hn] at k0
    have E := Lib.hid e2
    clear e2 h0 h1 hn
    generalize (z.natAbs : Int) = a at *
    go_enter Try.func80, Try.ntmps80
    go_wp2_with fail
    refine HL.out.mono ?_
    rintro e w1 ⟨rfl, rfl⟩
    go_wp2
    go_ret
    exact ⟨by rw [← E.out]; rfl, rfl⟩
end Go.Proofs.Ythanlckjfghnkaa.Mk
end
section
set_option linter.unusedVariables false
set_option linter.unusedSimpArgs false
namespace Go.Proofs.Ythanlckjfghnkaa.Ml
open Go.RowKit Go.Proofs.YthanlckjfghnkaaW.PrintWords Go.Proofs.YthanlckjfghnkaaW.PrintLast Go.Proofs.YthanlckjfghnkaaW.PrintMore Go.Proofs.Ythanlckjfghnkaa.PW Go.Proofs.Ythanlckjfghnkaa.Pc Go.Proofs.Ythanlckjfghnkaa.Ma Go.Proofs.Ythanlckjfghnkaa.Mb Go.Proofs.Ythanlckjfghnkaa.Mc Go.Proofs.Ythanlckjfghnkaa.Md Go.Proofs.Ythanlckjfghnkaa.Me Go.Proofs.Ythanlckjfghnkaa.Mi Go.Proofs.Ythanlckjfghnkaa.Mj Go.Proofs.Ythanlckjfghnkaa.Mk Dg
theorem D_and (a b i : Nat) : (D (a &&& b)).getD i 0 = (((a / 4294967296 ^ i % 4294967296) &&& (b / 4294967296 ^ i % 4294967296) : Nat) : Int) := by
  rw [D_getD]
  congr 1
  rw [show (4294967296 : Nat) = 2 ^ 32 from rfl, ← Nat.pow_mul]
  have h1 : (a &&& b) / 2 ^ (32 * i) = a / 2 ^ (32 * i) &&& b / 2 ^ (32 * i) := by
    rw [← Nat.shiftRight_eq_div_pow, ← Nat.shiftRight_eq_div_pow, ← Nat.shiftRight_eq_div_pow, Nat.shiftRight_and_distrib]
  rw [h1, Nat.and_mod_two_pow]
def andl (a b k : Nat) : List Int := (List.range k).map fun j => bits .and .u32 ((D a).getD j 0) ((D b).getD j 0)
theorem andl_len (a b k : Nat) : (andl a b k).length = k := by unfold andl; simp
theorem andl_succ (a b k : Nat) : andl a b (k + 1) = andl a b k ++ [bits .and .u32 ((D a).getD k 0) ((D b).getD k 0)] := by unfold andl; rw [List.range_succ, List.map_append]; rfl
theorem and_digit (a b j : Nat) : bits .and .u32 ((D a).getD j 0) ((D b).getD j 0) = (((a &&& b) / 4294967296 ^ j % 4294967296 : Nat) : Int) := by
  rw [← D_getD, D_and, D_getD, D_getD]
  exact (bits_nat .u32 32 (by decide) Po.wraps_u32 _ _ (Nat.mod_lt _ (by decide)) (Nat.mod_lt _ (by decide))).1
theorem andl_done (a b m : Nat) (hm : (D a).length ≤ m ∨ (D b).length ≤ m) : Dig 4294967296 (andl a b m) ∧ val 4294967296 (andl a b m) = ((a &&& b : Nat) : Int) := by
  have h2 : ∀ j, j < (andl a b m).length → (andl a b m).getD j 0 = (((a &&& b) / 4294967296 ^ j % 4294967296 : Nat) : Int) := by
    intro j hj
    rw [andl_len] at hj
    rw [← and_digit]
    unfold andl
    simp [List.getD, hj]
  constructor
  · exact dig_of_getD fun j hj => by rw [h2 j hj]; have := Nat.mod_lt ((a &&& b) / 4294967296 ^ j) (show 0 < 4294967296 by decide); omega
  · rw [val_digits (by decide) _ (a &&& b) h2, andl_len]
    congr 1
    apply Nat.mod_eq_of_lt
    have e : (4294967296 : Nat) = 2 ^ 32 := rfl
    rw [e, ← Nat.pow_mul]
    rcases hm with h | h
    · refine Nat.lt_of_le_of_lt Nat.and_le_left (Nat.lt_of_lt_of_le (lt_bl a) (Nat.pow_le_pow_right (by decide) ?_))
      have := D_bl a
      omega
    · refine Nat.lt_of_le_of_lt Nat.and_le_right (Nat.lt_of_lt_of_le (lt_bl b) (Nat.pow_le_pow_right (by decide) ?_))
      have := D_bl b
      omega
set_option maxHeartbeats 1600000 in
set_option maxRecDepth 100000 in
theorem andd {w : World} {p q s : Nat} {x y : Int} (hp : Blk w p) (hx : Z w q x) (hy : Z w s y) (h1 : bl x.natAbs ≤ 536870912) (h2 : bl y.natAbs ≤ 536870912) :
    Calls Try.prog 79 #[.pointer (some ⟨p, 0, none⟩), .pointer (some ⟨q, 0, none⟩), .pointer (some ⟨s, 0, none⟩)] w (Puts w p ((x.natAbs &&& y.natAbs : Nat) : Int)) := by
  obtain ⟨A, c, k0, k1, hm, hq⟩ := Z.open hx
  obtain ⟨B, d, j0, j1, hn, hs⟩ := Z.open hy
  have hl1 := D_len x.natAbs
  have hl2 := D_len y.natAbs
  have hca : ∀ (k : Nat) (wr : World), k < (D x.natAbs).length → Below w.heap.size w wr → ∃ ad, A = some ad ∧ wr.cell? (ad.add k) = some (.int .u32 ((D x.natAbs).getD k 0)) := fun k wr hk hb => by
    obtain ⟨ad, hA, hc⟩ := Kd.at_int hm.1 (k : Int) (by omega) (by omega)
    rw [Int.toNat_natCast, rdN] at hc
    exact ⟨ad, hA, (hb.cell (World.block_lt_of_cell? w _ hc)).trans hc⟩
  have hcb : ∀ (k : Nat) (wr : World), k < (D y.natAbs).length → Below w.heap.size w wr → ∃ ad, B = some ad ∧ wr.cell? (ad.add k) = some (.int .u32 ((D y.natAbs).getD k 0)) := fun k wr hk hb => by
    obtain ⟨ad, hA, hc⟩ := Kd.at_int hn.1 (k : Int) (by omega) (by omega)
    rw [Int.toNat_natCast, rdN] at hc
    exact ⟨ad, hA, (hb.cell (World.block_lt_of_cell? w _ hc)).trans hc⟩
  have hcc : ∀ wr, Below w.heap.size w wr → (wr.cell? ⟨q, 1, none⟩ = some (.slice A (D x.natAbs).length c) ∧ wr.cell? ⟨s, 1, none⟩ = some (.slice B (D y.natAbs).length d)) := fun wr hb =>
    ⟨(hb.cell (p := ⟨q, 1, none⟩) hq).trans k1, (hb.cell (p := ⟨s, 1, none⟩) hs).trans j1⟩
  have hfin : ∀ (m : Nat) (v : Value) (wr : World), ((D x.natAbs).length ≤ m ∨ (D y.natAbs).length ≤ m) → m ≤ 536870912 → Kd.R (Kd.int .u32) 94 wr w.heap.size (fun _ => True) v (andl x.natAbs y.natAbs m) → Below w.heap.size w wr →
      Calls Try.prog 62 #[.pointer (some ⟨p, 0, none⟩), .bool false, v] wr (Puts w p ((x.natAbs &&& y.natAbs : Nat) : Int)) := by
    intro m v wr hmm hm2 hR hb
    obtain ⟨A', c', rfl⟩ := Kd.R_slice hR
    have hr := Kd.R_reads' hR
    obtain ⟨hd, hv⟩ := andl_done _ _ _ hmm
    have := put (neg := false) (hp.below hb) (xs := andl x.natAbs y.natAbs m) ⟨hr.2.2, hr.2.1⟩ hd (by rw [andl_len]; omega)
    refine this.mono fun e w' h => ?_
    rw [hv] at h
    exact Mc.Puts.below hb h
  have HF := Lib.hid hfin
  have HCA := Lib.hid hca
  have HCB := Lib.hid hcb
  have HCC := Lib.hid hcc
  clear hfin hca hcb hcc hp hx hy hm hn
  generalize hla : (D x.natAbs).length = la at *
  generalize hlb : (D y.natAbs).length = lb at *
  clear hla hlb
  obtain ⟨m, hm1, hm2, hm3⟩ : ∃ m : Nat, m ≤ la ∧ m ≤ lb ∧ (la ≤ m ∨ lb ≤ m) := ⟨min la lb, by omega, by omega, by omega⟩
  have HM3 := Lib.hid hm3
  have HB := Aside0.mk (Below.refl w.heap.size w)
  have Ny0 := Aside0.mk (show ([] : List Int) = andl x.natAbs y.natAbs 0 from rfl)
  have hl1' : la ≤ 536870912 := by omega
  have hl2' : lb ≤ 536870912 := by omega
  clear hl1 hl2 h1 h2
  by_cases hlt : la < lb
  · obtain rfl : la = m := by omega
    clear hm1 hm3
    go_enter Try.func79, Try.ntmps79
    go_wp2_with ((with_reducible refine gate_dst (N := 9) rfl ?_); refine Kd.R_lit (Kd.int .u32) _ 94 ?hg (N := 9) ?hd (xs := ([] : List Int)) (inner := []) (ok := fun _ => True) (okp := fun _ => True) ?hr ?hp (fun _ hk => hk) trivial (Below.refl _ _) (Nat.le_refl _) (by simp) ?_; (case hd => rfl); (case hg => rfl); (case hr => first | (go_simp; done) | (go_simp; rfl)); (case hp => exact (Reps.none _ _)); intro v168 w3 ho4 hb hg_ hnew_; clear hg_ hnew_; rw [Ny0.out] at ho4; have n0_ := Aside0.mk (Kd.R_lower ho4 (Nat.le_refl _)); have n1_ := Aside0.mk hb; clear HB; have HO := n0_; have HB := n1_; obtain ⟨cx, cy⟩ := HCC.out w3 hb; clear n0_ n1_; clear hb ho4)
    go_region
    go_wp2_with fail
    go_loopw [7, 21] (fun v i wr => ∃ k : Nat, i = .int .i64 k ∧ k ≤ la ∧ Aside0 (Kd.R (Kd.int .u32) 94 wr w.heap.size (fun _ => True) v (andl x.natAbs y.natAbs k)) ∧ Aside0 (Below w.heap.size w wr)) (fun _ i _ => la - (intOf i).toNat)
    case atStart => exact ⟨0, rfl, by omega, ⟨by (with_reducible repeat (first | apply Kd.R_alloc | apply Kd.R_drewN | apply Kd.R_drew)); exact HO.out⟩, ⟨HB.out.drew⟩⟩
    case round =>
      clear HO HB cx cy
      obtain ⟨k, rfl, hk, HO, HB⟩ := hrel
      obtain ⟨cx, cy⟩ := HCC.out wr HB.out
      by_cases hkm : k < la
      · obtain ⟨ad, hA, ca⟩ := HCA.out k wr (by omega) HB.out
        obtain ⟨bd, hB, cb⟩ := HCB.out k wr (by omega) HB.out
        subst hA
        subst hB
        have HS := Aside0.mk (andl_succ x.natAbs y.natAbs k).symm
        have HLN := Aside0.mk (show ((andl x.natAbs y.natAbs k).length + 1) * 4 ≤ 140737488355328 by rw [andl_len]; omega)
        have hka : (k : Int) < (la : Int) := by omega
        have hkb : (k : Int) < (lb : Int) := by omega
        generalize (D x.natAbs).getD k 0 = u at *
        generalize (D y.natAbs).getD k 0 = v at *
        go_wp2_with fail
        go_region_law (refine Kd.R_append_step (Kd.int .u32) (w0 := w) w.heap.size (by rfl) (.tmp 24) (.tmp 40) 55 94 (.int .u32 0) 4 rfl Try.underlying55 infoU rfl (by decide) (by omega) _ (andl x.natAbs y.natAbs k) (bits .and .u32 u v) [.int .u32 (bits .and .u32 u v)] (fun _ => True) (fun _ => False) rfl rfl rfl (fun _ hk => hk.elim) (fun _ _ => trivial) (Kd.R_drew HO.out) HB.out.drew HB.out.size HLN.out ?_; intro v1 w1 ho hb hg hat; rw [HS.out] at ho; have HO1 := Aside0.mk ho; have HB1 := Aside0.mk hb; clear ho hb hg hat HO HB)
        all_goals go_wp2
        all_goals go_roundw
        all_goals first | exact ⟨k + 1, by go_num, by omega, HO1, HB1⟩ | ((simp [intOf]) <;> omega)
      · obtain rfl : la = k := by omega
        have HC := Lib.hid (HF.out la _ wr HM3.out (by omega) HO.out HB.out)
        clear HO HB
        go_wp2_with (go_at_call 62; refine HC.out.mono ?_; rintro e w2 ⟨rfl, hz2, hg2⟩; have HE := Lib.hid (show Puts w p ((x.natAbs &&& y.natAbs : Nat) : Int) _ w2 from ⟨rfl, hz2, hg2⟩); clear hz2 hg2)
        go_ret
        exact HE.out
  · by_cases hlt2 : lb < la
    · obtain rfl : lb = m := by omega
      clear hm1 hm3
      go_enter Try.func79, Try.ntmps79
      go_wp2_with ((with_reducible refine gate_dst (N := 9) rfl ?_); refine Kd.R_lit (Kd.int .u32) _ 94 ?hg (N := 9) ?hd (xs := ([] : List Int)) (inner := []) (ok := fun _ => True) (okp := fun _ => True) ?hr ?hp (fun _ hk => hk) trivial (Below.refl _ _) (Nat.le_refl _) (by simp) ?_; (case hd => rfl); (case hg => rfl); (case hr => first | (go_simp; done) | (go_simp; rfl)); (case hp => exact (Reps.none _ _)); intro v168 w3 ho4 hb hg_ hnew_; clear hg_ hnew_; rw [Ny0.out] at ho4; have n0_ := Aside0.mk (Kd.R_lower ho4 (Nat.le_refl _)); have n1_ := Aside0.mk hb; clear HB; have HO := n0_; have HB := n1_; obtain ⟨cx, cy⟩ := HCC.out w3 hb; clear n0_ n1_; clear hb ho4)
      go_region
      go_wp2_with fail
      go_loopw [7, 21] (fun v i wr => ∃ k : Nat, i = .int .i64 k ∧ k ≤ lb ∧ Aside0 (Kd.R (Kd.int .u32) 94 wr w.heap.size (fun _ => True) v (andl x.natAbs y.natAbs k)) ∧ Aside0 (Below w.heap.size w wr)) (fun _ i _ => lb - (intOf i).toNat)
      case atStart => exact ⟨0, rfl, by omega, ⟨by (with_reducible repeat (first | apply Kd.R_alloc | apply Kd.R_drewN | apply Kd.R_drew)); exact HO.out⟩, ⟨HB.out.drew⟩⟩
      case round =>
        clear HO HB cx cy
        obtain ⟨k, rfl, hk, HO, HB⟩ := hrel
        obtain ⟨cx, cy⟩ := HCC.out wr HB.out
        by_cases hkm : k < lb
        · obtain ⟨ad, hA, ca⟩ := HCA.out k wr (by omega) HB.out
          obtain ⟨bd, hB, cb⟩ := HCB.out k wr (by omega) HB.out
          subst hA
          subst hB
          have HS := Aside0.mk (andl_succ x.natAbs y.natAbs k).symm
          have HLN := Aside0.mk (show ((andl x.natAbs y.natAbs k).length + 1) * 4 ≤ 140737488355328 by rw [andl_len]; omega)
          have hka : (k : Int) < (la : Int) := by omega
          have hkb : (k : Int) < (lb : Int) := by omega
          generalize (D x.natAbs).getD k 0 = u at *
          generalize (D y.natAbs).getD k 0 = v at *
          go_wp2_with fail
          go_region_law (refine Kd.R_append_step (Kd.int .u32) (w0 := w) w.heap.size (by rfl) (.tmp 24) (.tmp 40) 55 94 (.int .u32 0) 4 rfl Try.underlying55 infoU rfl (by decide) (by omega) _ (andl x.natAbs y.natAbs k) (bits .and .u32 u v) [.int .u32 (bits .and .u32 u v)] (fun _ => True) (fun _ => False) rfl rfl rfl (fun _ hk => hk.elim) (fun _ _ => trivial) (Kd.R_drew HO.out) HB.out.drew HB.out.size HLN.out ?_; intro v1 w1 ho hb hg hat; rw [HS.out] at ho; have HO1 := Aside0.mk ho; have HB1 := Aside0.mk hb; clear ho hb hg hat HO HB)
          all_goals go_wp2
          all_goals go_roundw
          all_goals first | exact ⟨k + 1, by go_num, by omega, HO1, HB1⟩ | ((simp [intOf]) <;> omega)
        · obtain rfl : lb = k := by omega
          have HC := Lib.hid (HF.out lb _ wr HM3.out (by omega) HO.out HB.out)
          clear HO HB
          go_wp2_with (go_at_call 62; refine HC.out.mono ?_; rintro e w2 ⟨rfl, hz2, hg2⟩; have HE := Lib.hid (show Puts w p ((x.natAbs &&& y.natAbs : Nat) : Int) _ w2 from ⟨rfl, hz2, hg2⟩); clear hz2 hg2)
          go_ret
          exact HE.out

    · obtain rfl : la = lb := by omega
      obtain rfl : la = m := by omega
      clear hm1 hm3
      go_enter Try.func79, Try.ntmps79
      go_wp2_with ((with_reducible refine gate_dst (N := 9) rfl ?_); refine Kd.R_lit (Kd.int .u32) _ 94 ?hg (N := 9) ?hd (xs := ([] : List Int)) (inner := []) (ok := fun _ => True) (okp := fun _ => True) ?hr ?hp (fun _ hk => hk) trivial (Below.refl _ _) (Nat.le_refl _) (by simp) ?_; (case hd => rfl); (case hg => rfl); (case hr => first | (go_simp; done) | (go_simp; rfl)); (case hp => exact (Reps.none _ _)); intro v168 w3 ho4 hb hg_ hnew_; clear hg_ hnew_; rw [Ny0.out] at ho4; have n0_ := Aside0.mk (Kd.R_lower ho4 (Nat.le_refl _)); have n1_ := Aside0.mk hb; clear HB; have HO := n0_; have HB := n1_; obtain ⟨cx, cy⟩ := HCC.out w3 hb; clear n0_ n1_; clear hb ho4)
      go_region
      go_wp2_with fail
      go_loopw [7, 21] (fun v i wr => ∃ k : Nat, i = .int .i64 k ∧ k ≤ la ∧ Aside0 (Kd.R (Kd.int .u32) 94 wr w.heap.size (fun _ => True) v (andl x.natAbs y.natAbs k)) ∧ Aside0 (Below w.heap.size w wr)) (fun _ i _ => la - (intOf i).toNat)
      case atStart => exact ⟨0, rfl, by omega, ⟨by (with_reducible repeat (first | apply Kd.R_alloc | apply Kd.R_drewN | apply Kd.R_drew)); exact HO.out⟩, ⟨HB.out.drew⟩⟩
      case round =>
        clear HO HB cx cy
        obtain ⟨k, rfl, hk, HO, HB⟩ := hrel
        obtain ⟨cx, cy⟩ := HCC.out wr HB.out
        by_cases hkm : k < la
        · obtain ⟨ad, hA, ca⟩ := HCA.out k wr (by omega) HB.out
          obtain ⟨bd, hB, cb⟩ := HCB.out k wr (by omega) HB.out
          subst hA
          subst hB
          have HS := Aside0.mk (andl_succ x.natAbs y.natAbs k).symm
          have HLN := Aside0.mk (show ((andl x.natAbs y.natAbs k).length + 1) * 4 ≤ 140737488355328 by rw [andl_len]; omega)
          have hka : (k : Int) < (la : Int) := by omega
          have hkb : (k : Int) < (la : Int) := by omega
          generalize (D x.natAbs).getD k 0 = u at *
          generalize (D y.natAbs).getD k 0 = v at *
          go_wp2_with fail
          go_region_law (refine Kd.R_append_step (Kd.int .u32) (w0 := w) w.heap.size (by rfl) (.tmp 24) (.tmp 40) 55 94 (.int .u32 0) 4 rfl Try.underlying55 infoU rfl (by decide) (by omega) _ (andl x.natAbs y.natAbs k) (bits .and .u32 u v) [.int .u32 (bits .and .u32 u v)] (fun _ => True) (fun _ => False) rfl rfl rfl (fun _ hk => hk.elim) (fun _ _ => trivial) (Kd.R_drew HO.out) HB.out.drew HB.out.size HLN.out ?_; intro v1 w1 ho hb hg hat; rw [HS.out] at ho; have HO1 := Aside0.mk ho; have HB1 := Aside0.mk hb; clear ho hb hg hat HO HB)
          all_goals go_wp2
          all_goals go_roundw
          all_goals first | exact ⟨k + 1, by go_num, by omega, HO1, HB1⟩ | ((simp [intOf]) <;> omega)
        · obtain rfl : la = k := by omega
          have HC := Lib.hid (HF.out la _ wr HM3.out (by omega) HO.out HB.out)
          clear HO HB
          go_wp2_with (go_at_call 62; refine HC.out.mono ?_; rintro e w2 ⟨rfl, hz2, hg2⟩; have HE := Lib.hid (show Puts w p ((x.natAbs &&& y.natAbs : Nat) : Int) _ w2 from ⟨rfl, hz2, hg2⟩); clear hz2 hg2)
          go_ret
          exact HE.out
end Go.Proofs.Ythanlckjfghnkaa.Ml
end
section
set_option linter.unusedVariables false
set_option linter.unusedSimpArgs false
namespace Go.Proofs.Ythanlckjfghnkaa.Mn
open Go.RowKit Go.Proofs.YthanlckjfghnkaaW.PrintWords Go.Proofs.YthanlckjfghnkaaW.PrintLast Go.Proofs.YthanlckjfghnkaaW.PrintMore Go.Proofs.Ythanlckjfghnkaa.PW Go.Proofs.Ythanlckjfghnkaa.Pc Go.Proofs.Ythanlckjfghnkaa.Ma Go.Proofs.Ythanlckjfghnkaa.Mb Go.Proofs.Ythanlckjfghnkaa.Mc Go.Proofs.Ythanlckjfghnkaa.Md Go.Proofs.Ythanlckjfghnkaa.Me Go.Proofs.Ythanlckjfghnkaa.Mi Go.Proofs.Ythanlckjfghnkaa.Mj Go.Proofs.Ythanlckjfghnkaa.Mk Go.Proofs.Ythanlckjfghnkaa.Ml Dg
open Pm (sgn)
theorem infoI : (Try.prog.info? 2).map (fun i => (i.zero, i.size, i.bytes)) = some (some (.int .i64 0), 1, 8) := by kernel_rfl
theorem sizeW : (Try.prog.info? 26).map (·.size) = some 2 := by kernel_rfl
def GivesW (w : World) (s : Int) (l : List Int) (b : Bool) (e : Ending) (w' : World) : Prop :=
  ∃ u, e = .returned (.tuple #[.agg #[.int .i64 s, u], .bool b]) ∧ Kd.R (Kd.int .i64) 2 w' w.heap.size (fun _ => True) u l ∧ Below w.heap.size w w'
def ZF (w : World) (p : Nat) (z : Int) (v : Value) : Prop :=
  ∃ A c, w.heap[p]? = some (.cells #[.bool (decide (z < 0)), .slice A (D z.natAbs).length c] 57 (0, 0)) ∧ Mg w A c (D z.natAbs) ∧ ∀ ad, A = some ad → 0 < (D z.natAbs).length → some ad.block ≠ v.ownBlock
section
variable {w w1 : World} {p : Nat} {n : Int} {v v1 : Value}
theorem ZF.zz (h : ZF w p n v) : Z w p n := by
  obtain ⟨A, c, hb, hm, _⟩ := h
  exact ⟨A, c, hb, hm⟩
theorem ZF.of (h : Z w p n) : ZF w p n (.slice none 0 0) := by
  obtain ⟨A, c, hb, hm⟩ := h
  exact ⟨A, c, hb, hm, fun ad _ _ e => by simp [Value.ownBlock] at e⟩
theorem ZF.below (h : ZF w p n v) (hb : Below w.heap.size w w1) : ZF w1 p n v := by
  obtain ⟨A, c, h1, hm, hv⟩ := h
  exact ⟨A, c, (hb.block p (Array.getElem?_eq_some_iff.1 h1).1).trans h1, hm.below hb, hv⟩
theorem ZF.grown {q : Nat} (h : ZF w p n v) (hg : w.grownBy w1 (some q)) (hq : Blk w q) (hne : p ≠ q) : ZF w1 p n v := by
  obtain ⟨A, c, hb, hm, hv⟩ := h
  exact ⟨A, c, (hg.block p (Array.getElem?_eq_some_iff.1 hb).1 (by simpa using hne)).trans hb, hm.grown hg hq, hv⟩
theorem add_block (a : Addr) (k : Nat) : (a.add k).block = a.block := by
  unfold Addr.add
  split <;> rfl
theorem Mg.kept_at {A : Option Addr} {c : Nat} {xs : List Int} (h : Mg w A c xs) (hk : ∀ ad, A = some ad → 0 < xs.length → w1.heap[ad.block]? = w.heap[ad.block]?) : Mg w1 A c xs := by
  refine ⟨?_, h.2⟩
  obtain ⟨h1, h2, h3⟩ := h.1
  refine ⟨h1, h2, fun hn => ?_⟩
  obtain ⟨ad, hA, hc⟩ := h3 hn
  refine ⟨ad, hA, fun j p hp => ?_⟩
  obtain ⟨cs, hs, hR, hcell⟩ := hc j p hp
  refine ⟨cs, hs, hR, fun i u hu => ?_⟩
  rw [← hcell i u hu]
  exact World.cell?_of_block (w := w) (w' := w1) (a := ad.add (j * (Kd.int IntKind.u32).sz + i)) (by rw [add_block]; exact hk ad hA hn)
theorem Mg.lt {A : Option Addr} {c : Nat} {xs : List Int} (h : Mg w A c xs) (ad : Addr) (hA : A = some ad) (hn : 0 < xs.length) : ad.block < w.heap.size := by
  subst hA
  exact Kd.C_lt h.1 hn (by decide)
theorem ZF.after (h : ZF w p n v) (hpv : some p ≠ v.ownBlock) (hg : w.grownBy w1 v.ownBlock) (hat : v1.ownBlock = v.ownBlock ∨ ∃ b, v1.ownBlock = some b ∧ w.heap.size ≤ b) : ZF w1 p n v1 := by
  obtain ⟨A, c, hb, hm, hv⟩ := h
  refine ⟨A, c, (hg.block p (Array.getElem?_eq_some_iff.1 hb).1 hpv).trans hb, Mg.kept_at hm fun ad hA hn => hg.block _ (Mn.Mg.lt hm ad hA hn) (hv ad hA hn), fun ad hA hn => ?_⟩
  rcases hat with e | ⟨b, e, hle⟩
  · rw [e]; exact hv ad hA hn
  · rw [e]
    intro e2
    injection e2 with e2
    have := Mn.Mg.lt hm ad hA hn
    omega
theorem ZF.store {gw : Nat} {cs : Array Value} (h : ZF w p n v) (hw : w.heap[gw]? = some (.cells cs 26 (0, 0))) (hc : cs.size = 2) (h0 : ∀ x, cs[0]? ≠ some (.int .u32 x)) (h1 : ∀ x, cs[1]? ≠ some (.int .u32 x)) (i : Nat) (u : Value) : ZF (w.setCell ⟨gw, i, none⟩ u) p n v := by
  obtain ⟨A, c, hb, hm, hv⟩ := h
  have hne : p ≠ gw := by
    rintro rfl
    rw [hb] at hw
    injection hw with hw
    injection hw with _ hw
    exact absurd hw (by decide)
  refine ⟨A, c, (Below.heap_setCell _ _ _ _ hne).trans hb, Mg.kept_at hm fun ad hA hn => Below.heap_setCell _ _ _ _ ?_, hv⟩
  intro e
  have e : ad.block = gw := e
  obtain ⟨ad', hA', hc'⟩ := hm.1.2.2 hn
  rw [hA] at hA'
  injection hA' with hA'
  subst hA'
  obtain ⟨cs', hs, hR, hcell⟩ := hc' 0 _ (List.getElem?_eq_getElem hn)
  have hR' : cs' = [.int .u32 (D n.natAbs)[0]] := hR
  subst hR'
  have h4 := hcell 0 _ rfl
  rw [← e] at hw
  simp only [World.cell?, add_block, hw] at h4
  split at h4
  · cases h4
  · generalize (ad.add (0 * (Kd.int IntKind.u32).sz + 0)).off = o at h4
    match o, h4 with
    | 0, h4 => exact h0 _ h4
    | 1, h4 => exact h1 _ h4
    | n + 2, h4 =>
      rw [Array.getElem?_eq_none (by omega)] at h4
      cases h4
end
def GivesMgF (N : Nat) (w : World) (n : Nat) (e : Ending) (w' : World) : Prop :=
  ∃ A c, e = .returned (.slice A (D n).length c) ∧ Mg w' A c (D n) ∧ (∀ ad, A = some ad → 0 < (D n).length → N ≤ ad.block) ∧ Below w.heap.size w w'
def PutsF (N : Nat) (w : World) (p : Nat) (z : Int) (e : Ending) (w' : World) : Prop :=
  Puts w p z e w' ∧ ∀ A n c, w'.cell? ⟨p, 1, none⟩ = some (.slice A n c) → ∀ ad, A = some ad → 0 < n → N ≤ ad.block
theorem fresh_of {w w' : World} {N : Nat} {e : Ending} {v : Value} {n : Nat} {b : Nat} {t : Nat} (he : e = .returned v) (h : Kd.V (Kd.int .u32) t w' b (fun k => N ≤ k) v (D n)) (hb : Below w.heap.size w w') : GivesMgF N w n e w' := by
  obtain ⟨A, c, rfl, hm⟩ := Mg.of_V h
  exact ⟨A, c, he, hm, fun ad hA hn => Kd.F_in (Kd.V_F h) hA hn (by decide), hb⟩
theorem V_of_fresh {w : World} {N : Nat} {A : Option Addr} {c : Nat} {xs : List Int} (h : Mg w A c xs) (hA : ∀ ad, A = some ad → 0 < xs.length → N ≤ ad.block) : Kd.V (Kd.int .u32) 94 w w.heap.size (fun k => N ≤ k) (.slice A xs.length c) xs := by
  refine Kd.V_mk h.2 ?_
  intro W' hW
  exact (Mn.Mg.kept_at (w1 := W') h fun ad hA' hn => hW _ (hA ad hA' hn) (Mn.Mg.lt h ad hA' hn)).1
theorem cRightF {w : World} {A : Option Addr} {c a n : Nat} (ha : Mg w A c (D a)) (h1 : bl a ≤ 536870912) (h2 : n ≤ 536870912) :
    Calls Try.prog 91 #[.slice A (D a).length c, .int .u64 n] w (GivesMgF w.heap.size w (a / 2 ^ n)) := by
  obtain ⟨k, hk⟩ := (Po.right a n h1 h2).rounds
  refine (impl_magRight.calls k A c _ _ _ w ha.1 ha.2 hk).mono ?_
  rintro e w' ⟨v, he, hv, hbl⟩
  exact fresh_of he hv hbl
theorem cTrimF {w : World} {N : Nat} {A : Option Addr} {c n : Nat} (h : Mg w A c (D n)) (hA : ∀ ad, A = some ad → 0 < (D n).length → N ≤ ad.block) (hN : N ≤ w.heap.size) (hl : bl n ≤ 1099511627776) :
    Calls Try.prog 75 #[.slice A (D n).length c] w (GivesMgF N w n) := by
  have hl2 := D_len n
  obtain ⟨k, hk⟩ := (Pm.trim _ (D n) rfl (D_dig n) (by omega)).rounds
  rw [D_val, Int.toNat_natCast] at hk
  refine (impl_magTrim.calls k (fun k => N ≤ k) A c (D n) _ w (V_of_fresh h hA) hk).mono ?_
  rintro e w' ⟨v, he, hv, hb⟩
  exact fresh_of he (Kd.V_mono hv (fun k hk => hk.elim id (fun h => Nat.le_trans hN h))) hb
set_option maxHeartbeats 400000 in
theorem putF {w W : World} {p n N : Nat} {A : Option Addr} {c : Nat} (hp : Blk w p) (hb : Below w.heap.size w W) (hN : N ≤ w.heap.size) (hm : Mg W A c (D n)) (hA : ∀ ad, A = some ad → 0 < (D n).length → N ≤ ad.block) (hl : bl n ≤ 1099511627776) :
    Calls Try.prog 62 #[.pointer (some ⟨p, 0, none⟩), .bool false, .slice A (D n).length c] W (PutsF N w p (n : Int)) := by
  have hT := cTrimF hm hA (Nat.le_trans hN hb.size) hl
  obtain ⟨b, B, m, d, hbx⟩ := hp
  have hlt : p < w.heap.size := (Array.getElem?_eq_some_iff.1 hbx).1
  have HB := Lib.hid hbx
  have HT := Lib.hid hT
  have HBW := Lib.hid hb
  clear hT hbx hm hA hl hb
  have hE : ∀ w1 : World, Below w.heap.size w w1 → (w1.cell? ⟨p, 0, none⟩ = some (.bool b) ∧ w1.cell? ⟨p, 1, none⟩ = some (.slice B m d) ∧ w1.frozen? ⟨p, 0, none⟩ = false ∧ w1.frozen? ⟨p, 1, none⟩ = false) := fun w1 h => by
    have h1 := (h.block p hlt).trans HB.out
    exact ⟨blk_cell h1 0, blk_cell h1 1, blk_frozen h1 0, blk_frozen h1 1⟩
  have HE := Lib.hid hE
  clear hE
  have hgoal : ∀ (w1 : World) (A' : Option Addr) (c' : Nat), Below w.heap.size w w1 → Mg w1 A' c' (D n) → (∀ ad, A' = some ad → 0 < (D n).length → N ≤ ad.block) → PutsF N w p (n : Int) (.returned (.pointer (some ⟨p, 0, none⟩))) ((w1.setCell ⟨p, 1, none⟩ (.slice A' (D n).length c')).setCell ⟨p, 0, none⟩ (.bool false)) := by
    intro w1 A' c' hbl hmg hA'
    have h1 := puts_of (z := (n : Int)) (A := A') (c := c') (neg := false) HB.out hbl (by simpa using hmg) (by simp)
    refine ⟨h1, ?_⟩
    have h2 := blk_set (blk_set ((hbl.block p hlt).trans HB.out) 1 (.slice A' (D n).length c')) 0 (.bool false)
    have h3 := blk_cell h2 1
    intro A2 n2 c2 he ad hA2 hn
    rw [h3] at he
    injection he with he
    simp at he
    obtain ⟨rfl, rfl, rfl⟩ := he
    exact hA' ad hA2 hn
  have HG := Lib.hid hgoal
  clear hgoal
  go_enter Try.func62, Try.ntmps62
  go_wp2_with fail
  refine HT.out.mono ?_
  rintro e w1 ⟨A', c', rfl, hmg, hA', hbl⟩
  obtain ⟨k0, k1, f0, f1⟩ := HE.out w1 (below_then HBW.out hbl)
  have h2 := Lib.hid (HG.out w1 A' c' (below_then HBW.out hbl) hmg hA')
  clear hmg hbl hA' HB HBW
  go_wp2
  go_ret
  exact h2.out
set_option maxHeartbeats 800000 in
theorem rshF {w : World} {p m n : Nat} (hz : Z w p (m : Int)) (h1 : bl m ≤ 268435456) (h2 : n ≤ 268435456) :
    Calls Try.prog 66 #[.pointer (some ⟨p, 0, none⟩), .pointer (some ⟨p, 0, none⟩), .int .u64 n] w (PutsF w.heap.size w p ((m / 2 ^ n : Nat) : Int)) := by
  have hp := hz.blk
  obtain ⟨A, c, k0, k1, hm, hq⟩ := Z.open hz
  rw [Int.natAbs_natCast] at k1 hm
  rw [show decide ((m : Int) < 0) = false by simp] at k0
  have b2 := bl_mono (Nat.div_le_self m (2 ^ n))
  have hR := cRightF hm (n := n) (by omega) (by omega)
  have hP := fun (w1 : World) (A' : Option Addr) (c' : Nat) h1 h2 h3 => putF (W := w1) (A := A') (c := c') (n := m / 2 ^ n) hp h1 (Nat.le_refl _) h2 h3 (by omega)
  have HR := Lib.hid hR
  have HP := Lib.hid hP
  clear hR hP b2 h1 h2 hm hp hz
  go_enter Try.func66, Try.ntmps66
  go_wp2_with fail
  refine HR.out.mono ?_
  rintro e w1 ⟨A1, c1, rfl, hm1, hA1, hb1⟩
  have HP1 := Lib.hid (HP.out w1 A1 c1 hb1 hm1 hA1)
  clear hm1 hb1 hA1
  go_wp2_with fail
  refine HP1.out.mono ?_
  rintro e w4 hz2
  have HE := Lib.hid hz2
  obtain ⟨⟨rfl, hz3, hg3⟩, h4⟩ := hz2
  clear hz3 hg3 h4
  go_wp2
  go_ret
  exact HE.out
def St (w wr : World) (gw gr gm : Nat) (s : Int) (m k : Nat) (v : Value) (pre : List Int) : Prop :=
  wr.heap[gw]? = some (.cells #[.int .i64 s, v] 26 (0, 0)) ∧ Kd.R (Kd.int .i64) 2 wr w.heap.size (fun _ => True) v pre ∧ ZF wr gr (k : Int) v ∧ ZF wr gm 16777215 v ∧ Below w.heap.size w wr ∧ pre ++ L k = L m
section
variable {w wr w1 : World} {gw gr gm m k : Nat} {s : Int} {v v1 : Value} {pre : List Int}
theorem St.cell (h : St w wr gw gr gm s m k v pre) : wr.cell? ⟨gw, 1, none⟩ = some v := blk_cell h.1 1
theorem St.lt (h : St w wr gw gr gm s m k v pre) : gw < wr.heap.size := by
  have := h.1
  rw [Array.getElem?_eq_some_iff] at this
  exact this.1
theorem St.below (h : St w wr gw gr gm s m k v pre) (hb : Below wr.heap.size wr w1) : St w w1 gw gr gm s m k v pre :=
  ⟨(hb.block gw h.lt).trans h.1, Kd.R_below h.2.1 hb, h.2.2.1.below hb, h.2.2.2.1.below hb, below_then h.2.2.2.2.1 hb, h.2.2.2.2.2⟩
theorem ne_types {g p : Nat} {cs : Array Value} {t : TypeId} (h : wr.heap[g]? = some (.cells cs t (0, 0))) (hp : Blk wr p) (ht : t ≠ 57) : g ≠ p := by
  rintro rfl
  obtain ⟨b, A, n, c, hc⟩ := hp
  rw [h] at hc
  injection hc with hc
  injection hc with _ hc
  exact ht hc
theorem St.other {p : Nat} (h : St w wr gw gr gm s m k v pre) (hp : Blk wr p) (h1 : gr ≠ p) (h2 : gm ≠ p) (hN : w.heap.size ≤ p) (hg : wr.grownBy w1 (some p)) : St w w1 gw gr gm s m k v pre := by
  refine ⟨(hg.block gw h.lt (by have := ne_types h.1 hp (by decide); simpa using this)).trans h.1, ?_, h.2.2.1.grown hg hp h1, h.2.2.2.1.grown hg hp h2, below_grown h.2.2.2.2.1 hg hN, h.2.2.2.2.2⟩
  obtain ⟨b, A, n, c, hc⟩ := hp
  exact Kd.R_mono (Kd.R_grown (Kd.R_types h.2.1 hc (by decide)) hg (fun k hk => by have := hk.2; simpa using this)) (fun _ hk => hk.1)
theorem St.rest {k' : Nat} {e : Ending} (h : St w wr gw gr gm s m k v pre) (hp : PutsF wr.heap.size wr gr (k' : Int) e w1) (hne : gm ≠ gr) (hgr : w.heap.size ≤ gr) (he : pre ++ L k' = L m) : St w w1 gw gr gm s m k' v pre := by
  obtain ⟨⟨_, hz, hg⟩, hf⟩ := hp
  have hb := h.2.2.1.zz.blk
  refine ⟨(hg.block gw h.lt (by have := ne_types h.1 hb (by decide); simpa using this)).trans h.1, ?_, ?_, h.2.2.2.1.grown hg hb hne, below_grown h.2.2.2.2.1 hg hgr, he⟩
  · obtain ⟨b, A, n, c, hc⟩ := hb
    exact Kd.R_mono (Kd.R_grown (Kd.R_types h.2.1 hc (by decide)) hg (fun k hk => by have := hk.2; simpa using this)) (fun _ hk => hk.1)
  · obtain ⟨A, c, hzb, hm⟩ := hz
    refine ⟨A, c, hzb, hm, fun ad hA hn ho => ?_⟩
    have h1 := hf _ _ _ (blk_cell hzb 1) ad hA hn
    have h2 := Kd.R_lt h.2.1 _ ho.symm
    omega
theorem St.put {wr1 : World} {p : Int} {k' : Nat} (h : St w wr gw gr gm s m k v pre) (ho : Kd.R (Kd.int .i64) 2 wr1 w.heap.size (fun _ => True) v1 (pre ++ [p])) (hg : wr.grownBy wr1 v.ownBlock) (hat : v1.ownBlock = v.ownBlock ∨ ∃ b, v1.ownBlock = some b ∧ wr.heap.size ≤ b) (hb : Below w.heap.size w wr1) (hgw : w.heap.size ≤ gw) :
    wr1.frozen? ⟨gw, 1, none⟩ = false ∧ (wr1.setCell ⟨gw, 1, none⟩ v1).heap[gw]? = some (.cells #[.int .i64 s, v1] 26 (0, 0)) ∧ Kd.R (Kd.int .i64) 2 (wr1.setCell ⟨gw, 1, none⟩ v1) w.heap.size (fun _ => True) v1 (pre ++ [p]) ∧ ZF (wr1.setCell ⟨gw, 1, none⟩ v1) gr (k : Int) v1 ∧ ZF (wr1.setCell ⟨gw, 1, none⟩ v1) gm 16777215 v1 ∧ Below w.heap.size w (wr1.setCell ⟨gw, 1, none⟩ v1) := by
  have hgw1 : wr1.heap[gw]? = some (.cells #[.int .i64 s, v] 26 (0, 0)) := (hg.block gw h.lt (Kd.R_ne h.2.1 h.1 (by decide))).trans h.1
  obtain ⟨A, c, hv⟩ := Kd.R_slice h.2.1
  refine ⟨blk_frozen hgw1 1, blk_set hgw1 1 v1, Kd.R_set ho hgw1 (by decide) 1 v1, ?_, ?_, hb.setCell hgw _⟩
  · obtain ⟨b, B, n, d, hc⟩ := h.2.2.1.zz.blk
    exact (h.2.2.1.after (Kd.R_ne h.2.1 hc (by decide)) hg hat).store hgw1 rfl (by simp) (by subst hv; simp) 1 v1
  · obtain ⟨b, B, n, d, hc⟩ := h.2.2.2.1.zz.blk
    exact (h.2.2.2.1.after (Kd.R_ne h.2.1 hc (by decide)) hg hat).store hgw1 rfl (by simp) (by subst hv; simp) 1 v1
def Sr (w wr : World) (gw gr gm : Nat) (s : Int) (m k : Nat) (v : Value) (pre : List Int) : Prop :=
  St w wr gw gr gm s m k v pre ∧ wr.heap[w.heap.size]? = some (.cells #[.int .i64 0, .slice none 0 0] 26 (0, 0))
theorem Sr.lt (h : Sr w wr gw gr gm s m k v pre) : w.heap.size < wr.heap.size := (Array.getElem?_eq_some_iff.1 h.2).1
theorem Sr.below (h : Sr w wr gw gr gm s m k v pre) (hb : Below wr.heap.size wr w1) : Sr w w1 gw gr gm s m k v pre :=
  ⟨h.1.below hb, (hb.block _ h.lt).trans h.2⟩
theorem Sr.other {p : Nat} (h : Sr w wr gw gr gm s m k v pre) (hp : Blk wr p) (h1 : gr ≠ p) (h2 : gm ≠ p) (hN : w.heap.size < p) (hg : wr.grownBy w1 (some p)) : Sr w w1 gw gr gm s m k v pre :=
  ⟨h.1.other hp h1 h2 (by omega) hg, (hg.block _ h.lt (by simp; omega)).trans h.2⟩
theorem Sr.rest {k' : Nat} {e : Ending} (h : Sr w wr gw gr gm s m k v pre) (hp : PutsF wr.heap.size wr gr (k' : Int) e w1) (hne : gm ≠ gr) (hgr : w.heap.size < gr) (he : pre ++ L k' = L m) : Sr w w1 gw gr gm s m k' v pre :=
  ⟨h.1.rest hp hne (by omega) he, (hp.1.2.2.block _ h.lt (by simp; omega)).trans h.2⟩
def Sm (w wr : World) (gw gr gm : Nat) (s : Int) (k : Nat) (v : Value) (pre : List Int) : Prop :=
  wr.heap[gw]? = some (.cells #[.int .i64 s, v] 26 (0, 0)) ∧ Kd.R (Kd.int .i64) 2 wr w.heap.size (fun _ => True) v pre ∧ ZF wr gr (k : Int) v ∧ ZF wr gm 16777215 v ∧ Below w.heap.size w wr ∧ wr.heap[w.heap.size]? = some (.cells #[.int .i64 0, .slice none 0 0] 26 (0, 0))
theorem Sr.put {wr1 : World} {p : Int} (h : Sr w wr gw gr gm s m k v pre) (ho : Kd.R (Kd.int .i64) 2 wr1 w.heap.size (fun _ => True) v1 (pre ++ [p])) (hg : wr.grownBy wr1 v.ownBlock) (hat : v1.ownBlock = v.ownBlock ∨ ∃ b, v1.ownBlock = some b ∧ wr.heap.size ≤ b) (hb : Below w.heap.size w wr1) (hgw : w.heap.size < gw) :
    wr1.frozen? ⟨gw, 1, none⟩ = false ∧ (∃ u, wr1.cell? ⟨gw, 1, none⟩ = some u) ∧ Sm w (wr1.setCell ⟨gw, 1, none⟩ v1) gw gr gm s k v1 (pre ++ [p]) := by
  obtain ⟨h1, h2, h3, h4, h5, h6⟩ := h.1.put (k' := 0) ho hg hat hb (by omega)
  refine ⟨h1, ?_, h2, h3, h4, h5, h6, ?_⟩
  · have hgw1 : wr1.heap[gw]? = some (.cells #[.int .i64 s, v] 26 (0, 0)) := (hg.block gw h.1.lt (Kd.R_ne h.1.2.1 h.1.1 (by decide))).trans h.1.1
    exact ⟨_, blk_cell hgw1 1⟩
  · refine (Below.heap_setCell _ _ _ _ (by show w.heap.size ≠ gw; omega)).trans ?_
    exact (hg.block _ h.lt (Kd.R_ne h.1.2.1 h.2 (by decide))).trans h.2
theorem Sm.rest {k' : Nat} {e : Ending} (h : Sm w wr gw gr gm s k v pre) (hp : PutsF wr.heap.size wr gr (k' : Int) e w1) (hne : gm ≠ gr) (hgr : w.heap.size < gr) (he : pre ++ L k' = L m) : Sr w w1 gw gr gm s m k' v pre := by
  obtain ⟨h2, h3, h4, h5, h6, h7⟩ := h
  have hlt : w.heap.size < wr.heap.size := (Array.getElem?_eq_some_iff.1 h7).1
  have hltg : gw < wr.heap.size := (Array.getElem?_eq_some_iff.1 h2).1
  obtain ⟨⟨_, hz, hg⟩, hf⟩ := hp
  have hb := h4.zz.blk
  refine ⟨⟨(hg.block gw hltg (by have := ne_types h2 hb (by decide); simpa using this)).trans h2, ?_, ?_, h5.grown hg hb hne, below_grown h6 hg (by omega), he⟩, (hg.block _ hlt (by simp; omega)).trans h7⟩
  · obtain ⟨b, A, n, c, hc⟩ := hb
    exact Kd.R_mono (Kd.R_grown (Kd.R_types h3 hc (by decide)) hg (fun k hk => by have := hk.2; simpa using this)) (fun _ hk => hk.1)
  · obtain ⟨A, c, hzb, hm⟩ := hz
    refine ⟨A, c, hzb, hm, fun ad hA hn ho => ?_⟩
    have h1 := hf _ _ _ (blk_cell hzb 1) ad hA hn
    have h2 := Kd.R_lt h3 _ ho.symm
    omega
end
end Go.Proofs.Ythanlckjfghnkaa.Mn
end
section
set_option linter.unusedVariables false
set_option linter.unusedSimpArgs false
namespace Go.Proofs.Ythanlckjfghnkaa.Mo
open Go.RowKit Go.Proofs.YthanlckjfghnkaaW.PrintWords Go.Proofs.YthanlckjfghnkaaW.PrintLast Go.Proofs.YthanlckjfghnkaaW.PrintMore Go.Proofs.Ythanlckjfghnkaa.PW Go.Proofs.Ythanlckjfghnkaa.Pc Go.Proofs.Ythanlckjfghnkaa.Ma Go.Proofs.Ythanlckjfghnkaa.Mb Go.Proofs.Ythanlckjfghnkaa.Mc Go.Proofs.Ythanlckjfghnkaa.Md Go.Proofs.Ythanlckjfghnkaa.Me Go.Proofs.Ythanlckjfghnkaa.Mi Go.Proofs.Ythanlckjfghnkaa.Mj Go.Proofs.Ythanlckjfghnkaa.Mk Go.Proofs.Ythanlckjfghnkaa.Ml Go.Proofs.Ythanlckjfghnkaa.Mn Dg
open Pm (sgn)
theorem L_next {k : Nat} (h : k ≠ 0) : L k = ((k % 16777216 : Nat) : Int) :: L (k / 16777216) := dg_pos _ h
theorem and_mask (k : Nat) : (((k : Int).natAbs &&& (16777215 : Int).natAbs : Nat) : Int) = ((k % 16777216 : Nat) : Int) := by
  have := Nat.and_two_pow_sub_one_eq_mod k 24
  rw [Int.natAbs_natCast, ← this]
  rfl
set_option maxHeartbeats 1600000 in
theorem fromBig_yes {w : World} {q : Nat} {z : Int} (hz : Z w q z) (h1 : bl z.natAbs ≤ 2400) :
    Calls Try.prog 43 #[.pointer (some ⟨q, 0, none⟩)] w (GivesW w (sgn z) (L z.natAbs) true) := by
  have hB := Me.bitLen (hz.below (below_alloc w (.cells #[.int .i64 0, .slice none 0 0] 26))) (by omega)
  have HB := Lib.hid hB
  have hgt : ((bl z.natAbs : Nat) : Int) ≤ 2400 := by omega
  clear hB
  have HZ := Lib.hid hz
  have HL := Lib.hid h1
  clear hz h1
  generalize bl z.natAbs = b at hgt HB
  go_enter Try.func43, Try.ntmps43
  go_wp2_with fail
  refine HB.out.mono ?_
  rintro e w1 ⟨rfl, n, rfl⟩
  have hb0 : Below w.heap.size w ((w.alloc (.cells #[.int .i64 0, .slice none 0 0] 26)).drewN n) := below_then (below_alloc w _) (Me.below_drawn n)
  have hS := Me.sign (HZ.out.below hb0)
  have hbx : ((w.alloc (.cells #[.int .i64 0, .slice none 0 0] 26)).drewN n).heap[w.heap.size]? = some (.cells #[.int .i64 0, .slice none 0 0] 26 (0, 0)) := ((Me.below_drawn n).block w.heap.size (by simp)).trans (heap_alloc_new w _)
  have hsz : ((w.alloc (.cells #[.int .i64 0, .slice none 0 0] 26)).drewN n).heap.size = w.heap.size + 1 := by show (w.alloc _).heap.size = _; simp
  have HS := Lib.hid hS
  have HB0 := Lib.hid hb0
  have HBX := Lib.hid hbx
  have HSZ := Lib.hid hsz
  clear hS hb0 hbx hsz
  generalize hW0 : (w.alloc (.cells #[.int .i64 0, .slice none 0 0] 26)).drewN n = W0 at *
  clear hW0
  go_wp2_with fail
  refine HS.out.mono ?_
  rintro e w2 ⟨rfl, rfl⟩
  -- the integers that are made
  have hz2 := HZ.out.below (below_then (below_then HB0.out (Ma.below_alloc W0 (.cells #[.int .i64 (sgn z), .slice none 0 0] 26))) (Ma.below_alloc _ (.cells #[.bool false, .slice none 0 0] 57)))
  have hp2 : Blk ((W0.alloc (.cells #[.int .i64 (sgn z), .slice none 0 0] 26)).alloc (.cells #[.bool false, .slice none 0 0] 57)) (W0.heap.size + 1) := by
    have := (Z.new (W0.alloc (.cells #[.int .i64 (sgn z), .slice none 0 0] 26))).blk
    simpa using this
  have hA := Me.abs hp2 hz2 (by have := HL.out; omega)
  have HA := Lib.hid hA
  have HP2 := Lib.hid hp2
  clear hA hz2 hp2
  go_wp2_with fail
  refine HA.out.mono ?_
  rintro e w3 ⟨rfl, hz3, hg3⟩
  have HZ3 := Lib.hid hz3
  have HG3 := Lib.hid hg3
  have hn3 := newInt (w := w3) (n := 16777215) (by decide) (by decide)
  have HN3 := Lib.hid hn3
  clear hz3 hg3 hn3
  go_wp2_with fail
  refine HN3.out.mono ?_
  rintro e w4 ⟨gm, rfl, hz4, hgm, hb4⟩
  have hst : Sr w w4 W0.heap.size (W0.heap.size + 1) gm (sgn z) z.natAbs z.natAbs (.slice none 0 0) [] := by
    have hA1 : Below W0.heap.size W0 ((W0.alloc (.cells #[.int .i64 (sgn z), .slice none 0 0] 26)).alloc (.cells #[.bool false, .slice none 0 0] 57)) := below_then (Ma.below_alloc W0 _) (Ma.below_alloc _ _)
    have hA2 : Below W0.heap.size W0 w3 := below_grown hA1 HG3.out (by omega)
    have hs3 := HG3.out.size
    simp at hs3
    have hcell : ((W0.alloc (.cells #[.int .i64 (sgn z), .slice none 0 0] 26)).alloc (.cells #[.bool false, .slice none 0 0] 57)).heap[W0.heap.size]? = some (.cells #[.int .i64 (sgn z), .slice none 0 0] 26 (0, 0)) := ((Ma.below_alloc _ _).block _ (by simp)).trans (heap_alloc_new W0 _)
    have hcell3 := (HG3.out.block W0.heap.size (by simp; omega) (by simp)).trans hcell
    have hcell4 := (hb4.block W0.heap.size (by omega)).trans hcell3
    have h0 : w.heap.size < W0.heap.size := by have := HSZ.out; omega
    refine ⟨⟨hcell4, Kd.R_nil _ _ _ _ _, ZF.of (HZ3.out.below hb4), ZF.of hz4, below_then (below_then HB0.out hA2) hb4, rfl⟩, ?_⟩
    exact (hb4.block _ (by omega)).trans ((hA2.block _ h0).trans HBX.out)
  have hne : gm ≠ W0.heap.size + 1 := by have := HZ3.out.lt; omega
  have hlim : (L z.natAbs).length ≤ 100 := (L_len_iff _ _).2 (by have := HL.out; omega)
  have HST := Lib.hid hst
  have HNE := Lib.hid hne
  have HLIM := Lib.hid hlim
  have hsz2 : w.heap.size < W0.heap.size := by have := HSZ.out; omega
  have HSZ2 := Lib.hid hsz2
  clear hz4 hgm hb4 hst hne hlim hsz2 HZ3 HG3 HN3 HA HP2 HS HB0 HBX HSZ HZ HB
  go_wp2_with fail
  generalize W0.heap.size = g at *
  have hsign : ∀ (wr : World) (k : Nat) (v : Value) (pre : List Int), Sr w wr g (g + 1) gm (sgn z) z.natAbs k v pre → Calls Try.prog 61 #[.pointer (some ⟨g + 1, 0, none⟩)] wr fun e w' => e = .returned (.int .i64 (sgn (k : Int))) ∧ wr = w' := fun wr k v pre h => Me.sign h.1.2.2.1.zz
  have HSG := Lib.hid hsign
  clear hsign
  go_loopg [] (L z.natAbs).length (fun n wr => ∃ (k : Nat) (v : Value) (pre : List Int), n = (L k).length ∧ Hid (Sr w wr g (g + 1) gm (sgn z) z.natAbs k v pre))
  case atStart => exact ⟨_, _, [], rfl, HST⟩
  case round =>
    obtain ⟨k, v, pre, hlen, HR⟩ := hrel
    clear HST
    obtain ⟨A, c, rfl⟩ := Kd.R_slice HR.out.1.2.1
    by_cases hk : k = 0
    · subst hk
      have hs0 : sgn ((0 : Nat) : Int) = 0 := rfl
      have HS0 := Lib.hid hs0
      clear hs0 hlen
      go_wp2_with fail
      refine (HSG.out wr _ _ _ HR.out).mono ?_
      rintro e w2 ⟨rfl, rfl⟩
      rw [HS0.out]
      have k0 := blk_cell HR.out.1.1 0
      have k1 := blk_cell HR.out.1.1 1
      simp only [List.getElem?_toArray, List.getElem?_cons_zero, List.getElem?_cons_succ] at k0 k1
      have c0 := blk_cell HR.out.2 0
      have c1 := blk_cell HR.out.2 1
      have f0 := blk_frozen HR.out.2 0
      have f1 := blk_frozen HR.out.2 1
      simp only [List.getElem?_toArray, List.getElem?_cons_zero, List.getElem?_cons_succ] at c0 c1
      go_wp2
      have hL0 : pre = L z.natAbs := by have := HR.out.1.2.2.2.2.2; rwa [show L 0 = [] from dg_zero _, List.append_nil] at this
      have hR := Kd.R_set (Kd.R_set HR.out.1.2.1 HR.out.2 (by decide) 0 (.int .i64 (sgn z))) (blk_set HR.out.2 0 (.int .i64 (sgn z))) (by decide) 1 (.slice A pre.length c)
      have hB := (HR.out.1.2.2.2.2.1.setCell (p := ⟨w.heap.size, 0, none⟩) (Nat.le_refl _) (.int .i64 (sgn z))).setCell (p := ⟨w.heap.size, 1, none⟩) (Nat.le_refl _) (.slice A pre.length c)
      have hBL := blk_set (blk_set HR.out.2 0 (.int .i64 (sgn z))) 1 (.slice A pre.length c)
      clear c0 c1 f0 f1 k0 k1
      rw [← hL0]
      exact bodyPost_ret (results_ct rfl _ _ w.heap.size 26 #[.int .i64 (sgn z), .slice A pre.length c] (0, 0) _ rfl hBL Try.underlying26 rfl sizeW) rfl ⟨_, rfl, hR, hB⟩
    · have hs1 : sgn ((k : Nat) : Int) = 1 := by unfold sgn; rw [if_neg (by omega), if_neg (by omega)]
      have HS1 := Lib.hid hs1
      have HK := Lib.hid hk
      clear hs1 hk
      go_wp2_with fail
      refine (HSG.out wr _ _ _ HR.out).mono ?_
      rintro e w2 ⟨rfl, rfl⟩
      rw [HS1.out]
      have kc := blk_cell HR.out.1.1 1
      simp only [List.getElem?_toArray, List.getElem?_cons_zero, List.getElem?_cons_succ] at kc
      have hlt := HR.out.1.lt
      have hh := HR.out.1.2.2.2.2.2
      have hpl : (pre.length + 1) * 8 ≤ 140737488355328 := by have := congrArg List.length hh; rw [List.length_append] at this; have := HLIM.out; omega
      have hbk : bl k ≤ 2400 := by
        have : (L k).length ≤ 100 := by have := congrArg List.length hh; rw [List.length_append] at this; have := HLIM.out; omega
        have := (L_len_iff k 100).1 this
        omega
      rw [L_next HK.out] at hh hlen
      have he : (pre ++ [((k % 16777216 : Nat) : Int)]) ++ L (k / 16777216) = L z.natAbs := by rw [List.append_assoc]; exact hh
      have hms : (L (k / 16777216)).length < gk := by rw [hlen]; simp
      have HPL := Lib.hid hpl
      have HBK := Lib.hid hbk
      have HE := Lib.hid he
      have HMS := Lib.hid hms
      clear hh hpl hbk he hms hlen
      have hand : ∀ W : World, Below wr.heap.size wr W → Blk W wr.heap.size → Calls Try.prog 79 #[.pointer (some ⟨wr.heap.size, 0, none⟩), .pointer (some ⟨g + 1, 0, none⟩), .pointer (some ⟨gm, 0, none⟩)] W fun e w' => e = .returned (.pointer (some ⟨wr.heap.size, 0, none⟩)) ∧ Hid (Sr w w' g (g + 1) gm (sgn z) z.natAbs k (.slice A pre.length c) pre) ∧ Hid (Z w' wr.heap.size ((k % 16777216 : Nat) : Int)) ∧ w'.cell? ⟨g, 1, none⟩ = some (.slice A pre.length c) := by
        intro W hW hB
        have hr := HR.out.below hW
        have h0 := HR.out.1.2.2.1.zz.lt
        have h2 := HR.out.1.2.2.2.1.zz.lt
        have hbk : bl ((k : Nat) : Int).natAbs ≤ 2400 := by
          have := HBK.out
          rw [Int.natAbs_natCast]; omega
        refine (andd hB hr.1.2.2.1.zz hr.1.2.2.2.1.zz (by omega) (by decide)).mono ?_
        rintro e w' ⟨rfl, hz, hg⟩
        rw [and_mask] at hz
        have hr2 := hr.other hB (by omega) (by omega) (by have := HR.out.lt; omega) hg
        exact ⟨rfl, Lib.hid hr2, Lib.hid hz, hr2.1.cell⟩
      have HAND := Lib.hid hand
      have hint : ∀ W : World, Z W wr.heap.size ((k % 16777216 : Nat) : Int) → Calls Try.prog 80 #[.pointer (some ⟨wr.heap.size, 0, none⟩)] W fun e w' => e = .returned (.int .i64 ((k % 16777216 : Nat) : Int)) ∧ W = w' := fun W hW => int64 hW (by omega) (by omega)
      have HINT := Lib.hid hint
      clear hand hint
      go_wp2_with fail
      go_region_law (first | (go_simp; go_at_call 79; refine (HAND.out _ (by first | exact ((Below.refl _ _).alloc (Nat.le_refl _) _).drew | exact (Below.refl _ _).drew.alloc (Nat.le_refl _) _) (by first | exact (Z.new wr).blk.below (Below.refl _ _).drew | exact (Z.new wr.drew).blk)).mono ?_; rintro e w2 ⟨rfl, HR2, HZ2, kc2⟩; have hl2 := HR2.out.1.lt; clear HR kc) | (go_simp; go_at_call 80; refine (HINT.out _ HZ2.out).mono ?_; rintro e w3 ⟨rfl, rfl⟩) | (refine Kd.R_append_step (Kd.int .i64) (w0 := w) w.heap.size (by rfl) (.tmp 22) (.tmp 28) 22 2 (.int .i64 0) 8 rfl Try.underlying22 infoI rfl (by decide) (by omega) _ pre ((k % 16777216 : Nat) : Int) [.int .i64 ((k % 16777216 : Nat) : Int)] (fun _ => True) (fun _ => False) rfl rfl rfl (fun _ hk => hk.elim) (fun _ _ => trivial) HR2.out.1.2.1 HR2.out.1.2.2.2.2.1 HR2.out.1.2.2.2.2.1.size HPL.out ?_; intro v1 w1 ho hb hg hat; obtain ⟨A1, c1, rfl⟩ := Kd.R_slice ho; obtain ⟨ff, ⟨u, cc⟩, HP⟩ := HR2.out.put ho hg hat hb HSZ2.out; rw [show (pre ++ [((k % 16777216 : Nat) : Int)]).length = pre.length + 1 by simp] at HP; have HPH := Lib.hid HP; clear HP ho hb hg hat HR2))
      all_goals clear HAND HINT HZ2
      all_goals
        clear kc2 hl2 hlt
        go_wp2_with fail
        refine (rshF HPH.out.2.2.1.zz (n := 24) (Nat.le_trans HBK.out (by decide)) (by decide)).mono ?_
        intro e w5 hp
        have HR5 := Lib.hid (HPH.out.rest hp HNE.out (Nat.lt_succ_of_lt HSZ2.out) HE.out)
        obtain ⟨⟨rfl, hz5, hg5⟩, hf5⟩ := hp
        clear hz5 hg5 hf5 HPH ff cc
        go_wp2_with fail
        go_roundg (L (k / 16777216)).length
        case measure => exact HMS.out
        case rel => exact ⟨_, _, _, rfl, HR5⟩
end Go.Proofs.Ythanlckjfghnkaa.Mo
end
section
namespace Go.Proofs.Ythanlckjfghnkaa.Mq
end Go.Proofs.Ythanlckjfghnkaa.Mq
end
section
set_option linter.unusedVariables false
set_option linter.unusedSimpArgs false
namespace Go.Proofs.Ythanlckjfghnkaa.Mr
open Go.RowKit Go.Proofs.YthanlckjfghnkaaW.PrintWords Go.Proofs.Ythanlckjfghnkaa.PW Go.Proofs.Ythanlckjfghnkaa.Pc Go.Proofs.Ythanlckjfghnkaa.Pb Go.Proofs.Ythanlckjfghnkaa.Pw Go.Proofs.Ythanlckjfghnkaa.Ma Go.Proofs.Ythanlckjfghnkaa.Mb Go.Proofs.Ythanlckjfghnkaa.Mc Go.Proofs.Ythanlckjfghnkaa.Md Go.Proofs.Ythanlckjfghnkaa.Me Go.Proofs.Ythanlckjfghnkaa.Mg Go.Proofs.Ythanlckjfghnkaa.Mh Go.Proofs.Ythanlckjfghnkaa.Mq Dg
def both (s0 : Int) (l0 : List Int) (s1 : Int) (l1 : List Int) (z : Int) : Int × List Int × Int := if isW s0 l0 = true ∧ isW s1 l1 = true then fit z else (0, [], 1)
theorem twoBoxes (w : World) (a0 : Int) (A0 : Option Addr) (n0 c0 : Nat) (a1 : Int) (A1 : Option Addr) (n1 c1 : Nat) : ∀ W, Below (w.heap.size + 2) ((w.alloc (.cells #[.int .i64 a0, .slice A0 n0 c0] 26)).alloc (.cells #[.int .i64 a1, .slice A1 n1 c1] 26)) W →
    Below w.heap.size w W ∧ W.cell? ⟨w.heap.size, 0, none⟩ = some (.int .i64 a0) ∧ W.cell? ⟨w.heap.size, 1, none⟩ = some (.slice A0 n0 c0) ∧ W.cell? ⟨w.heap.size + 1, 0, none⟩ = some (.int .i64 a1) ∧ W.cell? ⟨w.heap.size + 1, 1, none⟩ = some (.slice A1 n1 c1) ∧ w.heap.size + 2 ≤ W.heap.size := by
  intro W hW
  have e1 : (w.alloc (.cells #[.int .i64 a0, .slice A0 n0 c0] 26)).heap.size = w.heap.size + 1 := by simp
  have hx := (hW.block w.heap.size (by omega)).trans (((Ma.below_alloc (w.alloc (.cells #[.int .i64 a0, .slice A0 n0 c0] 26)) _).block w.heap.size (by simp)).trans (heap_alloc_new w _))
  have hy := (hW.block (w.heap.size + 1) (by omega)).trans (show _ = some (.cells #[.int .i64 a1, .slice A1 n1 c1] 26 (0, 0)) by have := heap_alloc_new (w.alloc (.cells #[.int .i64 a0, .slice A0 n0 c0] 26)) (.cells #[.int .i64 a1, .slice A1 n1 c1] 26); rw [e1] at this; exact this)
  exact ⟨(below_then (Ma.below_alloc w _) (Ma.below_alloc _ _)).trans (hW.mono (by omega)), blk_cell hx 0, blk_cell hx 1, blk_cell hy 0, blk_cell hy 1, by have := hW.size; simp at this; exact this⟩
end Go.Proofs.Ythanlckjfghnkaa.Mr
end
section
set_option linter.unusedVariables false
set_option linter.unusedSimpArgs false
namespace Go.Proofs.Ythanlckjfghnkaa.Mu
open Go.RowKit Go.Proofs.YthanlckjfghnkaaW.PrintWords Go.Proofs.Ythanlckjfghnkaa.PW Go.Proofs.Ythanlckjfghnkaa.Pc Go.Proofs.Ythanlckjfghnkaa.Pb Go.Proofs.Ythanlckjfghnkaa.Pw Go.Proofs.Ythanlckjfghnkaa.Ma Go.Proofs.Ythanlckjfghnkaa.Mb Go.Proofs.Ythanlckjfghnkaa.Mc Go.Proofs.Ythanlckjfghnkaa.Md Go.Proofs.Ythanlckjfghnkaa.Me Go.Proofs.Ythanlckjfghnkaa.Mg Go.Proofs.Ythanlckjfghnkaa.Mh Go.Proofs.Ythanlckjfghnkaa.Mq Go.Proofs.Ythanlckjfghnkaa.Mr Dg
theorem alloc_size (w : World) (o : Obj) : (w.alloc o).heap.size = w.heap.size + 1 := by simp
theorem threeBoxes (w : World) (a0 : Int) (A0 : Option Addr) (n0 c0 : Nat) (a1 : Int) (A1 : Option Addr) (n1 c1 : Nat) : ∀ W, Below (w.heap.size + 3) (((w.alloc (.cells #[.int .i64 a0, .slice A0 n0 c0] 26)).alloc (.cells #[.int .i64 a1, .slice A1 n1 c1] 26)).alloc (.cells #[.int .i64 0, .slice none 0 0] 26)) W →
    Below w.heap.size w W ∧ W.cell? ⟨w.heap.size, 0, none⟩ = some (.int .i64 a0) ∧ W.cell? ⟨w.heap.size, 1, none⟩ = some (.slice A0 n0 c0) ∧ W.cell? ⟨w.heap.size + 1, 0, none⟩ = some (.int .i64 a1) ∧ W.cell? ⟨w.heap.size + 1, 1, none⟩ = some (.slice A1 n1 c1) ∧ (w.heap.size + 3 ≤ W.heap.size ∧ w.heap.size < W.heap.size ∧ w.heap.size + 1 < W.heap.size ∧ w.heap.size + 1 + 1 < W.heap.size) ∧ W.heap[w.heap.size + 1 + 1]? = some (.cells #[.int .i64 0, .slice none 0 0] 26 (0, 0)) := by
  intro W hW
  have e2 : ((w.alloc (.cells #[.int .i64 a0, .slice A0 n0 c0] 26)).alloc (.cells #[.int .i64 a1, .slice A1 n1 c1] 26)).heap.size = w.heap.size + 2 := by rw [alloc_size, alloc_size]
  have hz : ((((w.alloc (.cells #[.int .i64 a0, .slice A0 n0 c0] 26)).alloc (.cells #[.int .i64 a1, .slice A1 n1 c1] 26)).alloc (.cells #[.int .i64 0, .slice none 0 0] 26))).heap[w.heap.size + 2]? = some (.cells #[.int .i64 0, .slice none 0 0] 26 (0, 0)) := by
    have := heap_alloc_new ((w.alloc (.cells #[.int .i64 a0, .slice A0 n0 c0] 26)).alloc (.cells #[.int .i64 a1, .slice A1 n1 c1] 26)) (.cells #[.int .i64 0, .slice none 0 0] 26)
    rw [e2] at this; exact this
  have hb := Ma.below_alloc ((w.alloc (.cells #[.int .i64 a0, .slice A0 n0 c0] 26)).alloc (.cells #[.int .i64 a1, .slice A1 n1 c1] 26)) (.cells #[.int .i64 0, .slice none 0 0] 26)
  rw [e2] at hb
  obtain ⟨h1, h2, h3, h4, h5, h6⟩ := twoBoxes w a0 A0 n0 c0 a1 A1 n1 c1 W (hb.trans (hW.mono (by omega)))
  have h7 : w.heap.size + 3 ≤ W.heap.size := by have := hW.size; rw [alloc_size, e2] at this; exact this
  exact ⟨h1, h2, h3, h4, h5, ⟨h7, by omega, by omega, by omega⟩, (hW.block _ (by omega)).trans hz⟩
theorem below_put {B q : Nat} {w w1 w2 : World} (h : Below B w w1) (k : w1.grownBy w2 (some q)) (hq : B ≤ q) (hw1 : B ≤ w1.heap.size) : Below B w w2 :=
  h.trans ⟨k.os, k.tape, k.output, k.size, fun i hi => k.block i (Nat.lt_of_lt_of_le hi hw1) (by simp; omega)⟩
theorem cellsOf {W : World} {g : Nat} (hg : W.heap[g]? = some (.cells #[.int .i64 0, .slice none 0 0] 26 (0, 0))) : W.cell? ⟨g, 0, none⟩ = some (.int .i64 0) ∧ W.cell? ⟨g, 1, none⟩ = some (.slice none 0 0) ∧ W.frozen? ⟨g, 0, none⟩ = false ∧ W.frozen? ⟨g, 1, none⟩ = false :=
  ⟨blk_cell hg 0, blk_cell hg 1, blk_frozen hg 0, blk_frozen hg 1⟩
end Go.Proofs.Ythanlckjfghnkaa.Mu
end
section
set_option linter.unusedVariables false
set_option linter.unusedSimpArgs false
namespace Go.Proofs.Ythanlckjfghnkaa.Ta
open Go.RowKit Go.Proofs.YthanlckjfghnkaaW.PrintWords Go.Proofs.Ythanlckjfghnkaa.PW Go.Proofs.Ythanlckjfghnkaa.Pc Go.Proofs.Ythanlckjfghnkaa.Ma Go.Proofs.Ythanlckjfghnkaa.Mb Go.Proofs.Ythanlckjfghnkaa.Mc Go.Proofs.Ythanlckjfghnkaa.Md Go.Proofs.Ythanlckjfghnkaa.Me Go.Proofs.Ythanlckjfghnkaa.Mf Go.Proofs.Ythanlckjfghnkaa.Dy Dg
set_option maxHeartbeats 800000 in
theorem trimH {w : World} {A : Option Addr} {c : Nat} {xs : List Int} (h : Mg w A c xs) (hd : Dig 4294967296 xs) (hl : xs.length ≤ 1099511627776) :
    Calls Try.prog 75 #[.slice A xs.length c] w (fun e w' => ∃ m, e = .returned (.slice A m c) ∧ (∃ n, w' = w.drewN n) ∧ m ≤ xs.length ∧ D (val 4294967296 xs).toNat = xs.take m) := by
  have HM := Lib.hid h
  have hfin : ∀ m : Nat, m ≤ xs.length → (∀ j, m ≤ j → xs.getD j 0 = 0) → (m = 0 ∨ xs.getD (m - 1) 0 ≠ 0) → D (val 4294967296 xs).toNat = xs.take m := fun m h1 h2 h3 => Dy.trimmed hd h1 h2 h3
  have HF := Lib.hid hfin
  have hcell : ∀ (k n : Nat), k < xs.length → ∃ ad, A = some ad ∧ (w.drewN n).cell? (ad.add k) = some (.int .u32 (xs.getD k 0)) := by
    intro k n hk
    obtain ⟨ad, hA, hc⟩ := Kd.at_int h.1 (k : Int) (by omega) (by omega)
    rw [Int.toNat_natCast, rdN] at hc
    exact ⟨ad, hA, hc⟩
  have HC := Lib.hid hcell
  have hle := h.2
  generalize hn : xs.length = N at *
  have HN := Lib.hid hn
  clear h hfin hcell hd hn
  go_enter Try.func75, Try.ntmps75
  go_wp2_with fail
  go_loopg [0] N (fun k v wr => ∃ n : Nat, v = .slice A k c ∧ k ≤ N ∧ Hid (∀ j, k ≤ j → xs.getD j 0 = 0) ∧ wr = w.drewN n)
  case atStart => exact ⟨0, rfl, Nat.le_refl _, Lib.hid (fun j hj => getD_ge (by have := HN.out; omega)), rfl⟩
  case round =>
    obtain ⟨n, rfl, hk, HZ, rfl⟩ := hrel
    cases gk with
    | zero =>
      have HE := Lib.hid (HF.out 0 (Nat.zero_le _) HZ.out (.inl rfl))
      clear HZ
      go_wp2
      go_ret
      exact ⟨0, rfl, ⟨_, rfl⟩, by omega, HE.out⟩
    | succ m =>
      obtain ⟨ad, hA, hc⟩ := HC.out m n (by have := HN.out; omega)
      subst hA
      have hw : IntKind.i64.wrap (((m + 1 : Nat) : Int) - 1) = (m : Int) := by rw [IntKind.wrap_i64]; omega
      by_cases h0 : xs.getD m 0 = 0
      · have HZ2 := Lib.hid (show ∀ j, m ≤ j → xs.getD j 0 = 0 from fun j hj => by
          rcases Nat.eq_or_lt_of_le hj with rfl | h
          · exact h0
          · exact HZ.out j h)
        rw [h0] at hc
        clear h0 HZ
        obtain ⟨i010, hi010, _, hsz10, _⟩ := info_parts infoU
        have hcut := cut_to (P := Try.prog) 55 94 .i64 Try.underlying55 hi010 (some ad) (m + 1) c (m : Int) (by omega) (by omega) (by omega)
        clear hi010 hsz10
        go_wp2
        go_roundg m
        case measure => omega
        case rel => exact ⟨_, rfl, by omega, HZ2, rfl⟩
      · have HE := Lib.hid (HF.out (m + 1) hk HZ.out (.inr h0))
        have h0b : (xs.getD m 0 == 0) = false := by simpa using h0
        clear h0 HZ
        generalize xs.getD m 0 = x at *
        go_wp2
        go_ret
        exact ⟨m + 1, rfl, ⟨_, rfl⟩, hk, HE.out⟩
def Row (w : World) (g : Nat) (ys : List Int) : Prop := w.heap[g]? = some (.cells (ys.map (Value.int .u32)).toArray 94 (0, 0))
theorem Row.cell {w : World} {g : Nat} {ys : List Int} (h : Row w g ys) {k : Nat} (hk : k < ys.length) : w.cell? ⟨g, k, none⟩ = some (.int .u32 (ys.getD k 0)) ∧ w.frozen? ⟨g, k, none⟩ = false := by
  have h1 := blk_cell h k
  refine ⟨?_, blk_frozen h k⟩
  rw [h1, List.getElem?_toArray, List.getElem?_map, List.getElem?_eq_getElem hk, getD_lt hk]; rfl
theorem Row.set {w : World} {g : Nat} {ys : List Int} (h : Row w g ys) (k : Nat) (x : Int) : Row (w.setCell ⟨g, k, none⟩ (.int .u32 x)) g (ys.set k x) := by
  unfold Row
  rw [blk_set h k, nums_set]
theorem Row.lt {w : World} {g : Nat} {ys : List Int} (h : Row w g ys) : g < w.heap.size := (Array.getElem?_eq_some_iff.1 h).1
theorem Row.mg {w : World} {g : Nat} {ys : List Int} (h : Row w g ys) (hl : ys.length ≤ 9223372036854775807) : Mg w (some ⟨g, 0, none⟩) ys.length ys := Mg.row h (by simp) hl
theorem Row.grown {w w1 : World} {g : Nat} {ys : List Int} (h : Row w g ys) {q : Option Nat} (hg : w.grownBy w1 q) (hne : some g ≠ q) : Row w1 g ys := (hg.block g h.lt hne).trans h
theorem Row.below {w w1 : World} {g B : Nat} {ys : List Int} (h : Row w g ys) (hb : Below B w w1) (hlt : g < B) : Row w1 g ys := (hb.block g hlt).trans h
set_option maxHeartbeats 1600000 in
set_option maxRecDepth 100000 in
theorem leftH {w : World} {A : Option Addr} {c a n : Nat} (ha : Mg w A c (D a)) (h0 : a ≠ 0) (h1 : bl a ≤ 536870912) (h2 : n < 32) :
    Calls Try.prog 84 #[.slice A (D a).length c, .int .u64 n] w (fun e w' => ∃ m ys, e = .returned (.slice (some ⟨w.heap.size, 0, none⟩) m ys.length) ∧ Row w' w.heap.size ys ∧ D (a * 2 ^ n) = ys.take m ∧ m ≤ ys.length ∧ ys.length = (D a).length + 1 ∧ Below w.heap.size w w') := by
  have hl1 := D_len a
  have hp := D_pos h0
  have hcell : ∀ (k : Nat) (W : World), k < (D a).length → Below w.heap.size w W → ∃ ad, A = some ad ∧ W.cell? (ad.add k) = some (.int .u32 ((D a).getD k 0)) := by
    intro k W hk hb
    obtain ⟨ad, hA, hc⟩ := Kd.at_int ha.1 (k : Int) (by omega) (by omega)
    rw [Int.toNat_natCast, rdN] at hc
    exact ⟨ad, hA, (hb.cell (World.block_lt_of_cell? w _ hc)).trans hc⟩
  have hfin : ∀ (ys : List Int) (W : World), Lf (D a) n (D a).length ys → Row W w.heap.size ys → Below w.heap.size w W →
      Calls Try.prog 75 #[.slice (some ⟨w.heap.size, 0, none⟩) ((D a).length + 1) ((D a).length + 1)] W (fun e w' => ∃ m ys, e = .returned (.slice (some ⟨w.heap.size, 0, none⟩) m ys.length) ∧ Row w' w.heap.size ys ∧ D (a * 2 ^ n) = ys.take m ∧ m ≤ ys.length ∧ ys.length = (D a).length + 1 ∧ Below w.heap.size w w') := by
    intro ys W hL hR hb
    have := trimH (hR.mg (by have := hL.len; omega)) hL.dig (by have := hL.len; omega)
    rw [hL.len] at this
    refine this.mono ?_
    rintro e w' ⟨m, rfl, ⟨k, rfl⟩, hm, hD⟩
    rw [hL.done] at hD
    exact ⟨m, ys, by rw [hL.len], hR, hD, by rw [hL.len]; exact hm, hL.len, pw_below_drewN hb k⟩
  have hstep : ∀ (ys : List Int) (i : Nat), Lf (D a) n i ys → i < (D a).length → ∃ u s : Int, IntKind.u64.wrap ((D a).getD i 0 * 2 ^ n) = s ∧ 0 ≤ s ∧ s < 18446744073709551616 ∧ 0 ≤ u ∧ u < 4294967296 ∧ ys.getD i 0 = u ∧ bits .or .u32 u (s % 4294967296) = u + s % 4294967296 ∧
      Lf (D a) n (i + 1) ((ys.set i (u + s % 4294967296)).set (i + 1) (s / 4294967296)) ∧ s / 4294967296 % 4294967296 = s / 4294967296 := by
    intro ys i hL hi
    obtain ⟨h, h1, h2, h3, h4, h5, h6, h7, h8⟩ := hL.step (D_dig a) (by assumption) hi rfl
    have hu := hL.dig.all0 (by decide) i
    exact ⟨_, _, Po.wraps_u64 _ h3 h4, h3, h4, hu.1, hu.2, rfl, h2, h, by omega⟩
  have HC := Lib.hid hcell
  have HF := Lib.hid hfin
  have HS := Lib.hid hstep
  have hst := Lib.hid (Lf.start (D a) n)
  have hdig : ∀ k, 0 ≤ (D a).getD k 0 ∧ (D a).getD k 0 < 4294967296 := fun k => (D_dig a).all0 (by decide) k
  have HD := Lib.hid hdig
  clear hcell hfin hstep hdig ha
  generalize hla : (D a).length = la at *
  have HLA := Lib.hid hla
  have hla2 : la ≤ 536870912 := by omega
  clear hla hl1 h1 h0
  have hmk := run_make_row' (P := Try.prog) 55 94 (.int .u32 0) 4 Try.underlying55 infoU rfl .i64 .i64 (la + 1) (by omega) (by omega)
  simp only [Int.natCast_add, Int.natCast_one] at hmk
  have HBEL := Lib.hid (show Below w.heap.size w ((w.alloc (.cells (madeCells #[Value.int .u32 0] (la + 1)) 94))) from (below_alloc w _))
  have HBLK := Lib.hid (show Row ((w.alloc (.cells (madeCells #[Value.int .u32 0] (la + 1)) 94))) w.heap.size (List.replicate (la + 1) 0) by
    unfold Row
    rw [show ((List.replicate (la + 1) (0 : Int)).map (Value.int .u32)).toArray = madeCells #[Value.int .u32 0] (la + 1) by rw [← made_list]]
    exact heap_alloc_new w _)
  have e1 : Int.tdiv (n : Int) 32 = 0 := Int.tdiv_eq_zero_of_lt (by omega) (by omega)
  have e2 : Int.tmod (n : Int) 32 = (n : Int) := Int.tmod_eq_of_lt (by omega) (by omega)
  go_enter Try.func84, Try.ntmps84
  go_wp2
  clear hmk
  go_loopw [22] (fun i wr => ∃ (k : Nat) (ys : List Int), i = .int .i64 k ∧ k ≤ la ∧ Hid (Lf (D a) n k ys) ∧ Hid (Row wr w.heap.size ys) ∧ Hid (Below w.heap.size w wr)) (fun i _ => la - (intOf i).toNat)
  case atStart => exact ⟨0, _, rfl, by omega, hst, HBLK, HBEL⟩
  case round =>
    clear hst HBLK HBEL
    obtain ⟨k, ys, rfl, hk, HO, HW, HBR⟩ := hrel
    by_cases hkb : k < la
    · obtain ⟨ad, hA, hcell⟩ := HC.out k wr hkb HBR.out
      subst hA
      obtain ⟨u, s, hs1, hs6, hs7, hs8, hs9, hs2, hs3, hL, hs4⟩ := HS.out ys k HO.out hkb
      obtain ⟨hx0, hx1⟩ := HD.out k
      have hyl : ys.length = la + 1 := by rw [HO.out.len, HLA.out]
      obtain ⟨hrow, hfro⟩ := HW.out.cell (k := k) (by omega)
      rw [hs2] at hrow
      have hW1 := HW.out.set k (u + s % 4294967296)
      obtain ⟨hrow2, hfro2⟩ := hW1.cell (k := k + 1) (by rw [List.length_set]; omega)
      have HW2 := Lib.hid (hW1.set (k + 1) (s / 4294967296))
      have HB2 := Lib.hid ((HBR.out.setCell (p := ⟨w.heap.size, k, none⟩) (Nat.le_refl _) (.int .u32 (u + s % 4294967296))).setCell (p := ⟨w.heap.size, k + 1, none⟩) (Nat.le_refl _) (.int .u32 (s / 4294967296)))
      have HL := Lib.hid hL
      generalize (ys.set k (u + s % 4294967296)).getD (k + 1) 0 = y1 at *
      generalize (D a).getD k 0 = x at *
      clear hs2 hyl hW1 hL HO HW HBR
      go_wp2
      go_roundw
      case rel => exact ⟨k + 1, _, by go_num, by omega, HL, HW2, HB2⟩
      case measure => simp [intOf]; omega
    · obtain rfl : la = k := by omega
      have HE := Lib.hid (HF.out ys wr HO.out HW.out HBR.out)
      clear HO HW HBR
      go_wp2_with (go_at_call 75; refine HE.out.mono ?_; rintro e w2 ⟨m, zs, rfl, hz⟩; have HZ := Lib.hid hz; clear hz)
      go_ret
      exact ⟨m, zs, rfl, HZ.out⟩
end Go.Proofs.Ythanlckjfghnkaa.Ta
end
section
set_option linter.unusedVariables false
set_option linter.unusedSimpArgs false
namespace Go.Proofs.Ythanlckjfghnkaa.Tb
open Go.RowKit Go.Proofs.YthanlckjfghnkaaW.PrintWords Go.Proofs.Ythanlckjfghnkaa.PW Go.Proofs.Ythanlckjfghnkaa.Pc Go.Proofs.Ythanlckjfghnkaa.Ma Go.Proofs.Ythanlckjfghnkaa.Mb Go.Proofs.Ythanlckjfghnkaa.Mc Go.Proofs.Ythanlckjfghnkaa.Md Go.Proofs.Ythanlckjfghnkaa.Me Go.Proofs.Ythanlckjfghnkaa.Mf Go.Proofs.Ythanlckjfghnkaa.Dy Go.Proofs.Ythanlckjfghnkaa.Ta Dg
def Own (w : World) (g : Nat) (xs : List Int) : Prop := ∃ cur : Array Value, w.heap[g]? = some (.cells cur 94 (0, 0)) ∧ ∀ k, k < xs.length → cur[k]? = some (.int .u32 (xs.getD k 0))
section
variable {w w1 : World} {g : Nat} {xs : List Int}
theorem Own.cell (h : Own w g xs) {k : Nat} (hk : k < xs.length) : w.cell? ⟨g, k, none⟩ = some (.int .u32 (xs.getD k 0)) ∧ w.frozen? ⟨g, k, none⟩ = false := by
  obtain ⟨cur, hb, hc⟩ := h
  exact ⟨(blk_cell hb k).trans (hc k hk), blk_frozen hb k⟩
theorem Own.lt (h : Own w g xs) : g < w.heap.size := by
  obtain ⟨cur, hb, hc⟩ := h
  exact (Array.getElem?_eq_some_iff.1 hb).1
theorem Own.set (h : Own w g xs) {k : Nat} (hk : k < xs.length) (x : Int) : Own (w.setCell ⟨g, k, none⟩ (.int .u32 x)) g (xs.set k x) := by
  obtain ⟨cur, hb, hc⟩ := h
  refine ⟨_, blk_set hb k _, fun j hj => ?_⟩
  rw [List.length_set] at hj
  have hs : k < cur.size := by
    have := hc k hk
    exact (Array.getElem?_eq_some_iff.1 this).1
  by_cases e : j = k
  · subst e
    rw [Array.getElem?_setIfInBounds_self_of_lt hs, Dg.getD_set_eq hk]
  · rw [Array.getElem?_setIfInBounds_ne (by omega), Dg.getD_set_ne (by omega)]
    exact hc j hj
theorem Own.far (h : Own w g xs) {p : Addr} (hp : g ≠ p.block) (u : Value) : Own (w.setCell p u) g xs := by
  obtain ⟨cur, hb, hc⟩ := h
  exact ⟨cur, blk_far hb hp u, hc⟩
theorem Own.grown (h : Own w g xs) {q : Option Nat} (hg : w.grownBy w1 q) (hne : some g ≠ q) : Own w1 g xs := by
  obtain ⟨cur, hb, hc⟩ := h
  exact ⟨cur, (hg.block g (Array.getElem?_eq_some_iff.1 hb).1 hne).trans hb, hc⟩
theorem Own.below (h : Own w g xs) {B : Nat} (hb : Below B w w1) (hlt : g < B) : Own w1 g xs := by
  obtain ⟨cur, hc, h2⟩ := h
  exact ⟨cur, (hb.block g hlt).trans hc, h2⟩
theorem Own.kept (h : Own w g xs) (hb : Below w.heap.size w w1) : Own w1 g xs := h.below hb h.lt
theorem Own.take (h : Own w g xs) (m : Nat) : Own w g (xs.take m) := by
  obtain ⟨cur, hb, hc⟩ := h
  refine ⟨cur, hb, fun k hk => ?_⟩
  rw [List.length_take] at hk
  rw [hc k (by omega), getD_lt (l := xs) (by omega), getD_lt (l := xs.take m) (by rw [List.length_take]; omega), List.getElem_take]
theorem Own.mg (h : Own w g xs) {c : Nat} (hl : xs.length ≤ 9223372036854775807) (hc0 : xs.length ≤ c) : Mg w (some ⟨g, 0, none⟩) c xs := by
  obtain ⟨cur, hb, hc⟩ := h
  refine ⟨⟨rfl, hl, fun _ => ⟨_, rfl, fun j p hp => ⟨[.int .u32 p], rfl, rfl, fun i u hu => ?_⟩⟩⟩, hc0⟩
  have hi : i = 0 := by
    have := (List.getElem?_eq_some_iff.1 hu).1
    simp at this
    exact this
  subst hi
  simp at hu
  subst hu
  have hsz : (Kd.int .u32).sz = 1 := rfl
  have hj : j < xs.length := (List.getElem?_eq_some_iff.1 hp).1
  rw [hsz, Nat.mul_one, Nat.add_zero, add_plain, blk_cell hb, hc j hj, getD_lt hj]
  rw [List.getElem?_eq_getElem hj] at hp
  injection hp with hp
  rw [hp]
theorem Own.of_row (h : Row w g xs) : Own w g xs := by
  refine ⟨_, h, fun k hk => ?_⟩
  rw [List.getElem?_toArray, List.getElem?_map, List.getElem?_eq_getElem hk, getD_lt hk]; rfl
theorem Own.of_R {base : Nat} {ok : Nat → Prop} {v : Value} (h : (Kd.int .u32).R 94 w base ok v xs) (hn : xs ≠ []) : ∃ g c, v = .slice (some ⟨g, 0, none⟩) xs.length c ∧ Own w g xs ∧ base ≤ g ∧ xs.length ≤ c ∧ c ≤ 9223372036854775807 ∧ ok g := by
  have ho := Kd.own_of_R h
  obtain ⟨hl, ⟨rfl, h0⟩ | ⟨g, cap, cur, rfl, hg, hb, h1, h2, h3, h4⟩⟩ := ho
  · exact absurd (List.length_eq_zero_iff.1 h0) hn
  · refine ⟨g, cap, rfl, ⟨cur, hb, fun k hk => ?_⟩, hg, h1, by simpa [maxLen] using h2, h.1 g rfl⟩
    have h5 := congrArg (fun l => l[k]?) h4
    simp only [Nat.mul_one] at h5
    rw [List.getElem?_take_of_lt hk, Array.getElem?_toList] at h5
    rw [h5]
    simp [encs, getD_lt hk, hk]
theorem Own.R_row {base m : Nat} {ok : Nat → Prop} (h : Row w g xs) (hm : m ≤ xs.length) (hb : base ≤ g) (hl : xs.length ≤ 9223372036854775807) (hok : ok g) : (Kd.int .u32).R 94 w base ok (.slice (some ⟨g, 0, none⟩) m xs.length) (xs.take m) := by
  have hlen : (xs.take m).length = m := by rw [List.length_take]; omega
  refine Kd.R_of_own ?_ (fun k hk => by injection hk with hk; subst hk; exact hok)
  rw [hlen]
  refine ⟨by rw [encs_length, hlen, Nat.mul_one], .inr ⟨g, xs.length, _, rfl, hb, h, hm, by simpa [maxLen] using hl, by simp, ?_⟩⟩
  simp [encs, List.map_take]
end
end Go.Proofs.Ythanlckjfghnkaa.Tb
end
section
set_option linter.unusedVariables false
set_option linter.unusedSimpArgs false
namespace Go.Proofs.Ythanlckjfghnkaa.Tc
open Go.RowKit Go.Proofs.YthanlckjfghnkaaW.PrintWords Go.Proofs.Ythanlckjfghnkaa.PW Go.Proofs.Ythanlckjfghnkaa.Pc Go.Proofs.Ythanlckjfghnkaa.Ma Go.Proofs.Ythanlckjfghnkaa.Mb Go.Proofs.Ythanlckjfghnkaa.Mc Go.Proofs.Ythanlckjfghnkaa.Md Go.Proofs.Ythanlckjfghnkaa.Me Go.Proofs.Ythanlckjfghnkaa.Mf Go.Proofs.Ythanlckjfghnkaa.Dy Go.Proofs.Ythanlckjfghnkaa.Ta Go.Proofs.Ythanlckjfghnkaa.Tb Dg Go.Proofs.Ythanlckjfghnkaa.Dv Go.Proofs.Ythanlckjfghnkaa.Dw Go.Proofs.Ythanlckjfghnkaa.Dx Go.Proofs.Ythanlckjfghnkaa.Du
def GivesTwo (w : World) (q r : Nat) (e : Ending) (w' : World) : Prop :=
  ∃ A c B d, e = .returned (.tuple #[.slice A (D q).length c, .slice B (D r).length d]) ∧ Mg w' A c (D q) ∧ Mg w' B d (D r) ∧ Below w.heap.size w w'
theorem D_small {b : Nat} (h0 : b ≠ 0) (h1 : b < 4294967296) : D b = [(b : Int)] := by
  refine (D_eq (l := [(b : Int)]) (Dig.cons (by omega) (by show (b : Int) < 4294967296; omega) Dig.nil) (by intro _ h; simp at h; omega) ?_).symm
  simp [val_cons, val_nil]
theorem or64 {r d : Int} (r0 : 0 ≤ r) (r1 : r < 4294967296) (d0 : 0 ≤ d) (d1 : d < 4294967296) : bits .or .u64 (r * 4294967296) d = r * 4294967296 + d := by
  have := Po.or_high (x := d) (y := r) d0 d1 r0 r1
  obtain ⟨a, rfl⟩ := Int.eq_ofNat_of_zero_le d0
  obtain ⟨b, rfl⟩ := Int.eq_ofNat_of_zero_le r0
  have e2 : (b : Int) * 4294967296 = ((b * 4294967296 : Nat) : Int) := by simp
  have h1 : a < 2 ^ 64 := by omega
  have h2 : b * 4294967296 < 2 ^ 64 := by omega
  rw [e2, (bits_nat .u64 64 (by decide) Po.wraps_u64 _ _ h1 h2).2] at this
  rw [e2, (bits_nat .u64 64 (by decide) Po.wraps_u64 _ _ h2 h1).2, Nat.or_comm, this]
  omega
set_option maxHeartbeats 800000 in
set_option maxRecDepth 100000 in
theorem divSmall {w : World} {A B : Option Addr} {c d a b : Nat} (ha : Mg w A c (D a)) (hb : Mg w B d (D b)) (h1 : bl a ≤ 268435456) (h2 : bl b ≤ 268435456) (h : a < b) :
    Calls Try.prog 77 #[.slice A (D a).length c, .slice B (D b).length d] w (GivesTwo w (a / b) (a % b)) := by
  rw [Nat.div_eq_of_lt h, Nat.mod_eq_of_lt h]
  have hC := cCmp ha hb (by omega) (by omega)
  rw [show Pm.sgn ((a : Int) - b) = -1 by unfold Pm.sgn; rw [if_pos (by omega)]] at hC
  have hL := fun (W : World) (hbl : Below w.heap.size w W) => (cClone (ha.below hbl) (by omega)).mono fun e w' h => GivesMg.of hbl h
  have HC := Lib.hid hC
  have HL := Lib.hid hL
  clear hC hL ha hb h1 h2 h
  have hD0 : (D 0).length = 0 := by rw [D_zero]; rfl
  have HD0 := Lib.hid hD0
  clear hD0
  generalize (D b).length = lb at *
  go_enter Try.func77, Try.ntmps77
  go_wp2_with (first | (go_at_call 94; refine HC.out.mono ?_; rintro e w1 ⟨rfl, n, rfl⟩; have HL1 := Lib.hid (HL.out (w.drewN n) (below_drawn n)); clear HC) | (go_at_call 95; refine HL1.out.mono ?_; rintro e w2 ⟨A2, c2, rfl, hm2, hb2⟩; have HE := Lib.hid (show GivesTwo w 0 a (.returned (.tuple #[.slice none 0 0, .slice A2 (D a).length c2])) w2 from ⟨none, 0, A2, c2, by rw [HD0.out], by rw [D_zero]; exact Mg.nil _, hm2, hb2⟩); clear hm2 hb2))
  go_ret2
  exact HE.out
theorem GivesTwo.of {w w1 w2 : World} {q r : Nat} {A B : Option Addr} {c d : Nat} (h1 : Mg w1 A c (D q)) (hb : Below w1.heap.size w1 w2) (h2 : Mg w2 B d (D r)) (hw : Below w.heap.size w w2) :
    GivesTwo w q r (.returned (.tuple #[.slice A (D q).length c, .slice B (D r).length d])) w2 := ⟨A, c, B, d, rfl, h1.below hb, h2, hw⟩
set_option maxHeartbeats 1600000 in
set_option maxRecDepth 100000 in
theorem divOne {w : World} {A B : Option Addr} {c d a b : Nat} (ha : Mg w A c (D a)) (hb : Mg w B d (D b)) (h1 : bl a ≤ 268435456) (h0 : b ≠ 0) (h2 : b < 4294967296) (h : b ≤ a) :
    Calls Try.prog 77 #[.slice A (D a).length c, .slice B (D b).length d] w (GivesTwo w (a / b) (a % b)) := by
  have hbl : bl b ≤ bl a := bl_mono h
  have hDb := D_small h0 h2
  have hC := cCmp ha hb (by omega) (by omega)
  have hl1 := D_len a
  have hcellA : ∀ (k : Nat) (W : World), k < (D a).length → Below w.heap.size w W → ∃ ad, A = some ad ∧ W.cell? (ad.add k) = some (.int .u32 ((D a).getD k 0)) := by
    intro k W hk hb
    obtain ⟨ad, hA, hc⟩ := Kd.at_int ha.1 (k : Int) (by omega) (by omega)
    rw [Int.toNat_natCast, rdN] at hc
    exact ⟨ad, hA, (hb.cell (World.block_lt_of_cell? w _ hc)).trans hc⟩
  have hcellB : ∃ bd, B = some bd ∧ ∀ W : World, Below w.heap.size w W → W.cell? bd = some (.int .u32 (b : Int)) := by
    obtain ⟨bd, hB, hc⟩ := Kd.at_int hb.1 (0 : Int) (by omega) (by rw [hDb]; simp)
    rw [show (0 : Int).toNat = 0 from rfl, show rd (D b) (0 : Int) = (b : Int) by rw [hDb]; rfl] at hc
    refine ⟨bd, hB, fun W hbW => ?_⟩
    have e : bd.add 0 = bd := by simp [Addr.add]
    rw [e] at hc
    exact (hbW.cell (World.block_lt_of_cell? w _ hc)).trans hc
  obtain ⟨bd, rfl, hcellB⟩ := hcellB
  have hT1 : ∀ (out : List Int) (rr : Int) (W : World), So (D a) (b : Int) 0 out rr → Row W w.heap.size out → Below w.heap.size w W → rr = ((a % b : Nat) : Int) ∧ Calls Try.prog 75 #[.slice (some ⟨w.heap.size, 0, none⟩) (D a).length (D a).length] W (GivesMg w (a / b)) := by
    intro out rr W hS hR hbW
    obtain ⟨e1, e2⟩ := hS.done
    have := cTrim (hR.mg (by have := hS.len; omega)) hS.dig (by have := hS.len; omega)
    rw [e1, Int.toNat_natCast, hS.len] at this
    exact ⟨e2, this.mono fun e w' h => GivesMg.of hbW h⟩
  have hT2 : ∀ (W : World), Calls Try.prog 75 #[.slice (some ⟨W.heap.size, 0, none⟩) 1 1] (W.alloc (.cells #[.int .u32 ((a % b : Nat) : Int)] 94)) (GivesMg W (a % b)) := by
    intro W
    have hlt := Nat.mod_lt a (Nat.pos_of_ne_zero h0)
    have hm : Mg (W.alloc (.cells #[.int .u32 ((a % b : Nat) : Int)] 94)) (some ⟨W.heap.size, 0, none⟩) 1 [((a % b : Nat) : Int)] := Mg.row (xs := [((a % b : Nat) : Int)]) (heap_alloc_new W _) rfl (by simp)
    have := cTrim hm (Dig.cons (by omega) (by show ((a % b : Nat) : Int) < 4294967296; omega) Dig.nil) (by simp)
    rw [show (val 4294967296 [((a % b : Nat) : Int)]).toNat = a % b by rw [val_cons, val_nil, Int.mul_zero, Int.add_zero, Int.toNat_natCast]] at this
    exact this.mono fun e w' h => GivesMg.of (below_alloc W _) h
  have hstep : ∀ (t : Nat) (out : List Int) (rr : Int), So (D a) (b : Int) (t + 1) out rr → t < (D a).length → ∃ x q m : Int, bits .or .u64 (rr * 4294967296) ((D a).getD t 0) = x ∧ x.tdiv b = q ∧ x.tmod b = m ∧ So (D a) (b : Int) t (out.set t q) m ∧
      0 ≤ x ∧ x < 18446744073709551616 ∧ 0 ≤ q ∧ q < 4294967296 ∧ 0 ≤ m ∧ m < b ∧ 0 ≤ rr ∧ rr < b := by
    intro t out rr hS ht
    obtain ⟨s1, s2, s3, s4, s5⟩ := hS.step (D_dig a) (by omega) ht rfl
    have hr := hS.fr
    have hd := (D_dig a).all0 (by decide) t
    refine ⟨_, _, _, or64 hr.1 (by omega) hd.1 hd.2, Int.tdiv_eq_ediv_of_nonneg s2, Int.tmod_eq_emod_of_nonneg s2, s1, s2, s3, s4, s5, s1.fr.1, s1.fr.2, hr.1, hr.2⟩
  have hst := Lib.hid (So.start (a := D a) (b := (b : Int)) (by omega))
  have hdig : ∀ k, 0 ≤ (D a).getD k 0 ∧ (D a).getD k 0 < 4294967296 := fun k => (D_dig a).all0 (by decide) k
  rw [show (D b).length = 1 by rw [hDb]; rfl]
  rw [show (D b).length = 1 by rw [hDb]; rfl] at hC
  have hsg : Pm.sgn ((a : Int) - b) = 0 ∨ Pm.sgn ((a : Int) - b) = 1 := by unfold Pm.sgn; split <;> (try split) <;> omega
  have HC := Lib.hid hC
  have HCA := Lib.hid hcellA
  have HCB := Lib.hid hcellB
  have HT1 := Lib.hid hT1
  have HT2 := Lib.hid hT2
  have HS := Lib.hid hstep
  have HD := Lib.hid hdig
  clear hC hcellA hcellB hT1 hT2 hstep hdig ha hb hbl h hDb
  have hla : (D a).length ≤ 268435456 := by omega
  have hb0 : 0 < (b : Int) := by omega
  have hb1 : (b : Int) < 4294967296 := by omega
  generalize hbb : (b : Int) = bb at *
  have hbne : (bb == 0) = false := by simp; omega
  clear hbb hl1 h1
  have hlt := Nat.mod_lt a (Nat.pos_of_ne_zero h0)
  generalize a % b = r0 at *
  generalize a / b = q0 at *
  generalize hla0 : (D a).length = la at *
  have HLA := Lib.hid hla0
  clear hla0
  generalize Pm.sgn ((a : Int) - bb) = sg at *
  have hmk := run_make_row' (P := Try.prog) 55 94 (.int .u32 0) 4 Try.underlying55 infoU rfl .i64 .i64 la (by omega) (by omega)
  have HBEL := Lib.hid (show ∀ n : Nat, Below w.heap.size w ((w.drewN n).alloc (.cells (madeCells #[Value.int .u32 0] la) 94)) from fun n => below_then (below_drawn n) (below_alloc (w.drewN n) _))
  have HBLK := Lib.hid (show ∀ n : Nat, Row ((w.drewN n).alloc (.cells (madeCells #[Value.int .u32 0] la) 94)) w.heap.size (List.replicate la 0) from fun n => by
    unfold Row
    rw [show ((List.replicate la (0 : Int)).map (Value.int .u32)).toArray = madeCells #[Value.int .u32 0] la by rw [← made_list]]
    exact heap_alloc_new (w.drewN n) _)
  have hsg2 : ¬ sg < 0 := by omega
  clear hsg
  go_enter Try.func77, Try.ntmps77
  go_wp2_with (go_at_call 94; refine HC.out.mono ?_; rintro e w1 ⟨rfl, n, rfl⟩; clear HC)
  go_loopw [7, 8] (fun r i wr => ∃ (t : Nat) (j rr : Int) (out : List Int), r = .int .u64 rr ∧ i = .int .i64 j ∧ j + 1 = (t : Int) ∧ t ≤ la ∧ Hid (So (D a) bb t out rr) ∧ Hid (Row wr w.heap.size out) ∧ Hid (Below w.heap.size w wr)) (fun _ i _ => (intOf i + 1).toNat)
  case atStart =>
    exact ⟨la, _, _, _, rfl, rfl, by omega, by omega, hst, Lib.hid (HBLK.out n), Lib.hid (HBEL.out n)⟩
  case round =>
    clear hst HBLK HBEL
    obtain ⟨t, j, rr, out, rfl, rfl, hj, ht, HO, HW, HBR⟩ := hrel
    cases t with
    | zero =>
      obtain rfl : j = -1 := by omega
      clear hj
      obtain ⟨hrr, hc⟩ := HT1.out out rr wr HO.out HW.out HBR.out
      have HC1 := Lib.hid hc
      subst hrr
      clear hc HO HW HBR
      go_wp2_with fail
      refine HC1.out.mono ?_
      rintro e w2 ⟨A2, c2, rfl, hm2, hb2⟩
      have HC2 := Lib.hid (HT2.out w2)
      have HM2 := Lib.hid hm2
      have HB2 := Lib.hid hb2
      clear hm2 hb2
      go_wp2_with fail
      refine HC2.out.mono ?_
      rintro e w3 ⟨A3, c3, rfl, hm3, hb3⟩
      have HE := Lib.hid (GivesTwo.of HM2.out hb3 hm3 (below_then HB2.out hb3))
      clear hm3 hb3
      go_wp2
      go_ret2
      exact HE.out
    | succ k =>
      obtain rfl : j = (k : Int) := by omega
      clear hj
      obtain ⟨ad, hA, hcell⟩ := HCA.out k wr (by omega) HBR.out
      subst hA
      have hcb := HCB.out wr HBR.out
      obtain ⟨x, q, m, hs1, hs2, hs3, hS, hx0, hx1, hq0, hq1, hm0, hm1, hr0, hr1⟩ := HS.out k out rr HO.out (by omega)
      obtain ⟨hrow, hfro⟩ := HW.out.cell (k := k) (by have := HO.out.len; have := HLA.out; omega)
      have HW2 := Lib.hid (HW.out.set k q)
      have HB2 := Lib.hid (HBR.out.setCell (p := ⟨w.heap.size, k, none⟩) (Nat.le_refl _) (.int .u32 q))
      have hcb2 := HCB.out _ HB2.out
      have HS2 := Lib.hid hS
      obtain ⟨hd0, hd1⟩ := HD.out k
      generalize out.getD k 0 = y at *
      generalize (D a).getD k 0 = dd at *
      clear hS HO HW HBR
      go_wp2
      go_roundw
      case rel => exact ⟨k, _, _, _, rfl, rfl, by omega, by omega, HS2, HW2, HB2⟩
      case measure => (simp [intOf]) <;> omega
end Go.Proofs.Ythanlckjfghnkaa.Tc
end
section
set_option linter.unusedVariables false
set_option linter.unusedSimpArgs false
namespace Go.Proofs.Ythanlckjfghnkaa.Te
open Go.RowKit Go.Proofs.YthanlckjfghnkaaW.PrintWords Go.Proofs.Ythanlckjfghnkaa.PW Go.Proofs.Ythanlckjfghnkaa.Pc Go.Proofs.Ythanlckjfghnkaa.Ma Go.Proofs.Ythanlckjfghnkaa.Mb Go.Proofs.Ythanlckjfghnkaa.Mc Go.Proofs.Ythanlckjfghnkaa.Md Go.Proofs.Ythanlckjfghnkaa.Me Go.Proofs.Ythanlckjfghnkaa.Mf Go.Proofs.Ythanlckjfghnkaa.Dy Go.Proofs.Ythanlckjfghnkaa.Ta Go.Proofs.Ythanlckjfghnkaa.Tb Go.Proofs.Ythanlckjfghnkaa.Tc Dg Go.Proofs.Ythanlckjfghnkaa.Dv Go.Proofs.Ythanlckjfghnkaa.Dw Go.Proofs.Ythanlckjfghnkaa.Dx Go.Proofs.Ythanlckjfghnkaa.Du
theorem and64 {x : Int} (h0 : 0 ≤ x) (h1 : x < 18446744073709551616) : bits .and .u64 x 4294967295 = x % 4294967296 := by
  obtain ⟨a, rfl⟩ := Int.eq_ofNat_of_zero_le h0
  have h2 : a < 2 ^ 64 := by omega
  have := (bits_nat .u64 64 (by decide) Po.wraps_u64 a 4294967295 h2 (by decide)).1
  rw [show ((4294967295 : Nat) : Int) = 4294967295 from rfl] at this
  rw [this, show (4294967295 : Nat) = 2 ^ 32 - 1 from rfl, Nat.and_two_pow_sub_one_eq_mod]
  omega
theorem subFacts {r0 b r : List Int} {g c bo cs : Int} {i q : Nat} (h : Ms r0 b g i q r c bo) (hb : Dig 4294967296 b) (hg0 : 0 ≤ g) (hg1 : g < 4294967296) (hq : q ≤ b.length) (hi : i + q < r.length) (hcs : cs = c + g * b.getD q 0) :
    ∃ lo now : Int, bits .and .u64 cs 4294967295 = lo ∧ IntKind.u64.wrap (IntKind.u64.wrap (r.getD (i + q) 0 - lo) - bo) = now ∧ Ms r0 b g i (q + 1) (r.set (i + q) (now % 4294967296)) (cs / 4294967296) (now / 9223372036854775808) ∧
      0 ≤ cs ∧ cs < 18446744073709551616 ∧ 0 ≤ lo ∧ lo < 4294967296 ∧ 0 ≤ now ∧ now < 18446744073709551616 ∧ 0 ≤ bo ∧ bo ≤ 1 ∧ 0 ≤ c ∧ c < 4294967296 := by
  have hbk := hb.all0 (by decide) q
  obtain ⟨m0, m1⟩ := mul_lt_b hg0 hg1 hbk.1 hbk.2
  have hc := h.fc
  have hbo : 0 ≤ bo ∧ bo ≤ 1 := by rcases h.fb with h | h <;> omega
  have c0 : 0 ≤ cs := by omega
  have c1 : cs < 18446744073709551616 := by omega
  refine ⟨_, (r.getD (i + q) 0 - cs % 4294967296 - bo) % 18446744073709551616, and64 c0 c1, ?_, h.step hb hg0 hg1 hq hi hcs rfl, c0, c1, by omega, by omega, by omega, by omega, hbo.1, hbo.2, hc.1, hc.2⟩
  rw [IntKind.wrap_u64, IntKind.wrap_u64]
  omega
theorem addFacts {r0 b r : List Int} {c cc : Int} {i q : Nat} (h : Ab r0 b i q r c) (hb : Dig 4294967296 b) (hi : i + q < r.length) (hcc : cc = c + r.getD (i + q) 0 + b.getD q 0) :
    Ab r0 b i (q + 1) (r.set (i + q) (cc % 4294967296)) (cc / 4294967296) ∧ 0 ≤ c ∧ c ≤ 1 ∧ 0 ≤ cc ∧ cc < 8589934592 := by
  have hbk := hb.all0 (by decide) q
  have hrk := h.dig.all0 (by decide) (i + q)
  have hbk1 : b.getD q 0 < 4294967296 := hbk.2
  have hrk1 : r.getD (i + q) 0 < 4294967296 := hrk.2
  have hc : 0 ≤ c ∧ c ≤ 1 := by rcases h.fc with h | h <;> omega
  exact ⟨h.step hb hi hcc, hc.1, hc.2, by omega, by omega⟩
theorem grown_refl (w : World) (r : Option Nat) : w.grownBy w r := ⟨rfl, rfl, rfl, Nat.le_refl _, fun _ _ _ => rfl⟩
theorem grown_set {a w : World} {g k : Nat} (h : a.grownBy w (some g)) (u : Value) : a.grownBy (w.setCell ⟨g, k, none⟩ u) (some g) :=
  ⟨h.os, h.tape, h.output, by simpa [World.setCell] using h.size, fun i hi hne => (Below.heap_setCell w _ u i (by
    rintro rfl
    exact hne rfl)).trans (h.block i hi hne)⟩
end Go.Proofs.Ythanlckjfghnkaa.Te
end
section
set_option linter.unusedVariables false
set_option linter.unusedSimpArgs false
namespace Go.Proofs.Ythanlckjfghnkaa.Td
open Go.RowKit Go.Proofs.YthanlckjfghnkaaW.PrintWords Go.Proofs.Ythanlckjfghnkaa.PW Go.Proofs.Ythanlckjfghnkaa.Pc Go.Proofs.Ythanlckjfghnkaa.Ma Go.Proofs.Ythanlckjfghnkaa.Mb Go.Proofs.Ythanlckjfghnkaa.Mc Go.Proofs.Ythanlckjfghnkaa.Md Go.Proofs.Ythanlckjfghnkaa.Me Go.Proofs.Ythanlckjfghnkaa.Mf Go.Proofs.Ythanlckjfghnkaa.Dy Go.Proofs.Ythanlckjfghnkaa.Ta Go.Proofs.Ythanlckjfghnkaa.Tb Go.Proofs.Ythanlckjfghnkaa.Tc Go.Proofs.Ythanlckjfghnkaa.Te Dg Go.Proofs.Ythanlckjfghnkaa.Dv Go.Proofs.Ythanlckjfghnkaa.Dw Go.Proofs.Ythanlckjfghnkaa.Dx Go.Proofs.Ythanlckjfghnkaa.Du
def LeftG (w : World) (x : Nat) (e : Ending) (w' : World) : Prop :=
  ∃ g c, e = .returned (.slice (some ⟨g, 0, none⟩) (D x).length c) ∧ w.heap.size ≤ g ∧ (Kd.int .u32).R 94 w' w.heap.size (fun _ => True) (.slice (some ⟨g, 0, none⟩) (D x).length c) (D x) ∧ Own w' g (D x) ∧ Below w.heap.size w w' ∧ g < w'.heap.size
theorem leftG {w : World} {A : Option Addr} {c a n : Nat} (ha : Mg w A c (D a)) (h0 : a ≠ 0) (h1 : bl a ≤ 268435456) (h2 : n < 32) :
    Calls Try.prog 84 #[.slice A (D a).length c, .int .u64 n] w (LeftG w (a * 2 ^ n)) := by
  have hl := D_len a
  refine (leftH ha h0 (by omega) h2).mono ?_
  rintro e w' ⟨m, ys, rfl, hR, hD, hm, hl, hb⟩
  have hlen : (D (a * 2 ^ n)).length = m := by rw [hD, List.length_take]; omega
  refine ⟨w.heap.size, ys.length, by rw [hlen], Nat.le_refl _, ?_, ?_, hb, hR.lt⟩
  · rw [hlen, hD]
    exact Own.R_row hR hm (Nat.le_refl _) (by omega) trivial
  · rw [hD]
    exact (Own.of_row hR).take m
set_option maxHeartbeats 40000000 in
set_option maxRecDepth 100000 in
theorem divLong {w : World} {A B : Option Addr} {c d a b : Nat} (ha : Mg w A c (D a)) (hb : Mg w B d (D b)) (h1 : bl a ≤ 268435456) (h0 : 2 ≤ (D b).length) (h : b ≤ a) :
    Calls Try.prog 77 #[.slice A (D a).length c, .slice B (D b).length d] w (GivesTwo w (a / b) (a % b)) := by
  have hbl : bl b ≤ bl a := bl_mono h
  have hb0 : b ≠ 0 := by rintro rfl; rw [D_zero] at h0; simp at h0
  have ha0 : a ≠ 0 := by omega
  obtain ⟨n, hlb, hDs, hsh, hble⟩ := dsor_of hb0 h0
  have hlb1 := D_len b
  have hla1 := D_len a
  have hbits : ((32 * (D b).length : Nat) : Int) - (bl b : Nat) = ((32 * (D b).length - bl b : Nat) : Int) := by omega
  generalize hs : 32 * (D b).length - bl b = s at *
  have hsp : 1 ≤ 2 ^ s := Nat.two_pow_pos s
  have hmono : (D a).length ≤ (D (a * 2 ^ s)).length := Pn.D_len_mono (Nat.le_mul_of_pos_right a hsp)
  have hmono2 : (D (b * 2 ^ s)).length ≤ (D (a * 2 ^ s)).length := Pn.D_len_mono (Nat.mul_le_mul_right _ h)
  have hlen2 : (D (a * 2 ^ s)).length ≤ bl (a * 2 ^ s) := D_len _
  have hbls : bl (a * 2 ^ s) ≤ bl a + s := bl_shift_le _ _
  obtain ⟨m, hm⟩ : ∃ m, (D (a * 2 ^ s)).length + 1 = m + (D (b * 2 ^ s)).length := ⟨_, (Nat.sub_add_cancel (by omega)).symm⟩
  have hC := cCmp ha hb (by omega) (by omega)
  have hsg : Pm.sgn ((a : Int) - b) = 0 ∨ Pm.sgn ((a : Int) - b) = 1 := by unfold Pm.sgn; split <;> (try split) <;> omega
  have hBits := fun k => cBits (hb.below (below_drawn k)) (by omega)
  have hLB := fun (W : World) (hbW : Below w.heap.size w W) => leftG (hb.below hbW) (n := s) hb0 (by omega) hsh
  have hLA := fun (W : World) (hbW : Below w.heap.size w W) => leftG (ha.below hbW) (n := s) ha0 (by omega) hsh
  have hst := Lib.hid (Lo.start (a := a * 2 ^ s) (m := m) hDs (by have := hDs.len; omega))
  have hQ : ∀ (r out : List Int) (g : Nat) (W : World), Lo ((a * 2 ^ s : Nat) : Int) (D (b * 2 ^ s)) 0 r out → out.length ≤ 1099511627776 → Own W g out → Calls Try.prog 75 #[.slice (some ⟨g, 0, none⟩) out.length out.length] W (GivesMg W (a / b)) := by
    intro r out g W hL hl hO
    have := cTrim (hO.mg (c := out.length) (by omega) (Nat.le_refl _)) hL.digo hl
    rw [(hL.done (D_val _) hb0).1, Int.toNat_natCast] at this
    exact this
  have hRT : ∀ (r out : List Int) (g c : Nat) (W : World), Lo ((a * 2 ^ s : Nat) : Int) (D (b * 2 ^ s)) 0 r out → r.length ≤ 1099511627776 → r.length ≤ c → Own W g r → Calls Try.prog 75 #[.slice (some ⟨g, 0, none⟩) r.length c] W (GivesMg W (a % b * 2 ^ s)) := by
    intro r out g c W hL hl hlc hO
    have := cTrim (hO.mg (c := c) (by omega) hlc) hL.dig hl
    rw [(hL.done (D_val _) hb0).2, Int.toNat_natCast] at this
    exact this
  have hSR : ∀ (A' : Option Addr) (c' : Nat) (W : World), Mg W A' c' (D (a % b * 2 ^ s)) → Calls Try.prog 91 #[.slice A' (D (a % b * 2 ^ s)).length c', .int .u64 s] W (GivesMg W (a % b)) := by
    intro A' c' W hm'
    have b1 : bl (a % b * 2 ^ s) ≤ bl (a % b) + s := bl_shift_le _ _
    have b2 : bl (a % b) ≤ bl a := bl_mono (Nat.mod_le _ _)
    have := cRight hm' (n := s) (by omega) (by omega)
    rwa [Nat.mul_div_cancel _ (by omega)] at this
  have HQ := Lib.hid hQ
  have HRT := Lib.hid hRT
  have HSR := Lib.hid hSR
  clear hQ hRT hSR
  have HC := Lib.hid hC
  have HBITS := Lib.hid hBits
  have HLB := Lib.hid hLB
  have HLA := Lib.hid hLA
  have HDS := Lib.hid hDs
  have HSH := Lib.hid (show (32 * (D b).length) = bl b + s by omega)
  have hlbs := hDs.len
  clear hC hBits hLB hLA ha hb h hDs hbits hble hs
  generalize hla0 : (D a).length = la at *
  generalize hlb0 : (D b).length = lb at *
  generalize hLA0 : (D (a * 2 ^ s)).length = LA at *
  generalize hLB0 : (D (b * 2 ^ s)).length = LB at *
  have HLA0 := Lib.hid hLA0
  have HLB0 := Lib.hid hLB0
  have hlb2 : 32 * lb = bl b + s := HSH.out
  generalize bl b = blb at *
  generalize bl a = bla at *
  generalize bl (a * 2 ^ s) = blas at *
  clear hla0 hlb0 hLA0 hLB0
  obtain rfl : LB = n + 2 := by omega
  obtain rfl : lb = n + 2 := by omega
  clear hlbs hlb
  generalize Pm.sgn ((a : Int) - b) = sg at *
  have hsg2 : ¬ sg < 0 := by omega
  clear hsg
  have hsw : (32 * ((n : Int) + 2) - (blb : Int)) = (s : Int) := by omega
  have hne1 : ((n : Int) + 2 == 1) = false := by simp; omega
  clear HSH hlb2
  go_enter Try.func77, Try.ntmps77
  go_wp2_with (first | (go_at_call 94; refine HC.out.mono ?_; rintro e w1 ⟨rfl, k, rfl⟩; clear HC) | (go_at_call 90; refine (HBITS.out _).mono ?_; rintro e w1 ⟨rfl, k2, rfl⟩; clear HBITS))
  refine (HLB.out (w.drewN (k + k2)) (below_drawn _)).mono ?_
  rintro e w1 ⟨gb, cb, rfl, hgb, -, hOB, hB1, hltb⟩
  rw [HLB0.out]
  have HOB := Lib.hid hOB
  have HB1 := Lib.hid (below_then (below_drawn (k + k2)) hB1)
  have hgb2 : w.heap.size ≤ gb := hgb
  clear hOB hB1 hgb HLB
  go_wp2_with fail
  refine (HLA.out w1 HB1.out).mono ?_
  rintro e w2 ⟨ga, ca, rfl, hga, hRa, -, hB2, -⟩
  rw [HLA0.out]
  rw [HLA0.out] at hRa
  have HRA := Aside0.mk hRa
  have HB2 := Lib.hid hB2
  have HSZ : w1.heap.size ≤ w2.heap.size := hB2.size
  have HLN := Aside0.mk (show ((D (a * 2 ^ s)).length + 1) * 4 ≤ 140737488355328 by rw [HLA0.out]; omega)
  clear hRa hB2 hga HLA
  go_wp2_with (first | ((with_reducible refine gate_builtin (b := .append) (xs := #[.tmp 84, .tmp 85]) rfl ?_); at_builtin; refine Kd.R_append (Kd.int .u32) (w0 := w1) w1.heap.size rfl (.tmp 84) (.tmp 85) 55 94 (.int .u32 0) 4 rfl Try.underlying55 infoU rfl (by decide) (by omega) _ (D (a * 2 ^ s)) 0 [.int .u32 0] (fun _ => True) (fun _ => False) rfl rfl rfl (fun _ hk => hk.elim) (fun _ _ => trivial) HRA.out HB2.out HSZ HLN.out ?_; intro v3 w3 ho hb3 hg3 hat3; obtain ⟨gr, cr, rfl, hOR, hgr, hcr1, hcr2, -⟩ := Own.of_R ho (by simp); rw [List.length_append, HLA0.out, List.length_singleton]; rw [List.length_append, HLA0.out, List.length_singleton] at hcr1; have HOR := Lib.hid hOR; have HB3 := Lib.hid hb3; clear ho hb3 hg3 hat3 hOR))
  clear HRA HB2 HLN
  have HOR2 := HOR
  have hgrlt := HOR.out.lt
  have HBW := Lib.hid (below_then HB1.out HB3.out)
  have HOB2 := Lib.hid (HOB.out.below HB3.out hltb)
  have hmk := run_make_row' (P := Try.prog) 55 94 (.int .u32 0) 4 Try.underlying55 infoU rfl .i64 .i64 m (by omega) (by omega)
  have hmpos : 1 ≤ m := by omega
  have hmle : m + n ≤ 536870912 := by omega
  have HGO := Lib.hid (show Own (w3.alloc (.cells (madeCells #[Value.int .u32 0] m) 94)) w3.heap.size (List.replicate m 0) from by
    refine Own.of_row ?_
    unfold Row
    rw [show ((List.replicate m (0 : Int)).map (Value.int .u32)).toArray = madeCells #[Value.int .u32 0] m by rw [← made_list]]
    exact heap_alloc_new w3 _)
  have HBA := Lib.hid (show Below w3.heap.size w3 (w3.alloc (.cells (madeCells #[Value.int .u32 0] m) 94)) from below_alloc w3 _)
  have hWg : w.heap.size ≤ w3.heap.size := HBW.out.size
  have hgbr : gb < gr := by omega
  have HLS := Lib.hid (show (D (a * 2 ^ s) ++ [0]).length = m + (n + 2) by rw [List.length_append, HLA0.out, List.length_singleton]; exact hm)
  clear HOR HB1 HB3 HOB
  clear hlb1 hbl hlen2 hbls h1
  go_loopw [10] (fun v wr => v = .slice (some ⟨gr, 0, none⟩) (m + (n + 2)) cr ∧ w3 = wr) (fun _ _ => 0)
  case atStart => exact ⟨rfl, rfl⟩
  case round =>
    obtain ⟨rfl, rfl⟩ := hrel
    go_wp2_with fail
    go_loopw [13] (fun i wr => ∃ (t : Nat) (j : Int) (r out : List Int), i = .int .i64 j ∧ j + 1 = (t : Int) ∧ t ≤ m ∧ r.length = m + (n + 2) ∧ out.length = m ∧ Hid (Lo ((a * 2 ^ s : Nat) : Int) (D (b * 2 ^ s)) t r out) ∧ Hid (Own wr gr r) ∧ Hid (Own wr w3.heap.size out) ∧ Hid (Own wr gb (D (b * 2 ^ s))) ∧ Hid (Below w.heap.size w wr)) (fun i _ => (intOf i + 1).toNat)
    case atStart =>
      exact ⟨m, _, _, _, rfl, by omega, Nat.le_refl _, HLS.out, by simp, hst, Lib.hid (HOR2.out.below HBA.out hgrlt), HGO, Lib.hid (HOB2.out.below HBA.out (by omega)), Lib.hid (below_then HBW.out HBA.out)⟩
    case round =>
      clear hst HGO HBA HLS HOR2 HOB2 hmk
      obtain ⟨t, j, r, out, rfl, hj, ht, hrl, hol, HLO, HR, HO, HB, HBE⟩ := hrel
      cases t with
      | zero =>
        obtain rfl : j = -1 := by omega
        clear hj
        have hq := HQ.out r out w3.heap.size wr HLO.out (by omega) HO.out
        rw [hol] at hq
        have hr := fun (W : World) (hbW : Below wr.heap.size wr W) => HRT.out r out gr cr W HLO.out (by omega) (by omega) (HR.out.kept hbW)
        rw [hrl] at hr
        have HQ1 := Lib.hid hq
        have HR1 := Lib.hid hr
        clear hq hr HLO HR HO HB HQ HRT
        go_wp2_with fail
        refine HQ1.out.mono ?_
        rintro e w5 ⟨A5, c5, rfl, hm5, hb5⟩
        have HR2 := Lib.hid (HR1.out w5 hb5)
        have HM5 := Lib.hid hm5
        have HB5 := Lib.hid hb5
        clear hm5 hb5 HR1 HQ1
        go_wp2_with fail
        refine HR2.out.mono ?_
        rintro e w6 ⟨A6, c6, rfl, hm6, hb6⟩
        have HS6 := Lib.hid (HSR.out A6 c6 w6 hm6)
        have HB6 := Lib.hid hb6
        clear hm6 hb6 HR2
        go_wp2_with fail
        refine HS6.out.mono ?_
        rintro e w7 ⟨A7, c7, rfl, hm7, hb7⟩
        have HE := Lib.hid (GivesTwo.of HM5.out (below_then HB6.out hb7) hm7 (below_then HBE.out (below_then HB5.out (below_then HB6.out hb7))))
        clear hm7 hb7
        go_wp2
        go_ret2
        exact HE.out
      | succ k =>
        obtain rfl : j = (k : Int) := by omega
        clear hj
        obtain ⟨hsc, hhd⟩ := HLO.out.scene HDS.out (by omega)
        have hbl2 : (D (b * 2 ^ s)).length = n + 2 := HLB0.out
        obtain ⟨hcb1, -⟩ := HB.out.cell (k := n + 1) (by omega)
        obtain ⟨hcb0, -⟩ := HB.out.cell (k := n) (by omega)
        obtain ⟨hcr2, -⟩ := HR.out.cell (k := k + n + 2) (by omega)
        obtain ⟨hcr1', -⟩ := HR.out.cell (k := k + n + 1) (by omega)
        obtain ⟨hcr0, -⟩ := HR.out.cell (k := k + n) (by omega)
        have hr2 := HLO.out.dig.all0 (by decide) (k + n + 2)
        have hr1 := HLO.out.dig.all0 (by decide) (k + n + 1)
        have hv1 := hsc.f1
        have hv0 := hsc.f2
        have hr0 := hsc.fw
        have hG := Gs.start hsc hhd
        have hor1 := or64 hr2.1 hr2.2 hr1.1 hr1.2
        have hh0 := hsc.fh
        have htd := Int.tdiv_eq_ediv_of_nonneg (b := (D (b * 2 ^ s)).getD (n + 1) 0) hh0
        have htm := Int.tmod_eq_emod_of_nonneg (b := (D (b * 2 ^ s)).getD (n + 1) 0) hh0
        have HSC := Lib.hid hsc
        have HHD := Lib.hid hhd
        have hhd2 : r.getD (k + n + 2) 0 * 4294967296 + r.getD (k + n + 1) 0 < 18446744073709551616 := by omega
        clear hsc hhd hbl2
        generalize (D (b * 2 ^ s)).getD (n + 1) 0 = v1 at *
        generalize (D (b * 2 ^ s)).getD n 0 = v2 at *
        generalize r.getD (k + n + 2) 0 = r2 at *
        generalize r.getD (k + n + 1) 0 = r1 at *
        generalize r.getD (k + n) 0 = r0 at *
        generalize r2 * 4294967296 + r1 = head at *
        generalize head / v1 = g0 at *
        generalize head % v1 = l0 at *
        have hg0 := hG.fg
        have hl0 := hG.fl
        have HG := Lib.hid hG
        have hvne : (v1 == 0) = false := by simp; omega
        clear hG
        have hcr1b : wr.cell? ⟨gr, k + (n + 1), none⟩ = some (.int .u32 r1) := hcr1'
        have hcr0b : wr.cell? ⟨gr, k + (n + 2) - 2, none⟩ = some (.int .u32 r0) := hcr0
        have hcr2b : wr.cell? ⟨gr, k + (n + 2), none⟩ = some (.int .u32 r2) := hcr2
        go_wp2_with fail
        go_region
        go_wp2_with fail
        go_region
        clear htd htm hor1 hg0 hl0 hcr2 hcr2b hcr1' hcr1b hr2 hr1 hh0 hhd2 hvne
        generalize (Value.pointer (some (⟨gr, k + (n + 2) - 1, none⟩ : Addr))) = dead1
        generalize (Value.pointer (some (⟨gb, n + 2 - 1, none⟩ : Addr))) = dead2
        go_upto_block 6 with fail
        go_cut [15, 16] from 142 to 179 (fun g l wx => ∃ (gg : Int) (nn : Nat), g = .int .u64 gg ∧ Hid (Gd (val 4294967296 r) (val 4294967296 (D (b * 2 ^ s)) * 4294967296 ^ k) gg) ∧ 0 ≤ gg ∧ gg < 4294967296 ∧ wx = wr.drewN nn)
        case first =>
          clear HQ HRT HSR HO HR HB HBE
          go_wp2_with fail
          go_loopw [15, 16] (fun g l wx => ∃ (gg ll : Int) (nn : Nat), g = .int .u64 gg ∧ l = .int .u64 ll ∧ Hid (Gs (val 4294967296 r) (val 4294967296 (D (b * 2 ^ s)) * 4294967296 ^ k) v1 head gg ll) ∧ wx = wr.drewN nn) (fun _ l _ => (4294967296 - intOf l).toNat)
          case atStart => exact ⟨g0, l0, 2, rfl, rfl, HG, rfl⟩
          case round =>
            clear HG
            obtain ⟨gg, ll, nn, rfl, rfl, HG, rfl⟩ := hrel
            have hfg := HG.out.fg
            have hfl := HG.out.fl
            by_cases hbig : 4294967296 ≤ gg
            · have hsh1 : (decide (0 < gg / 4294967296)) = true := by simp; omega
              have hg1 := (HG.out.less HSC.out (.inl hbig)).1
              go_wp2_with fail
              go_big_region
              by_cases hl : ll + v1 < 4294967296
              · have HN := Lib.hid (HG.out.again HSC.out (.inl hbig) hl)
                have hsh3 : (decide (0 < (ll + v1) / 4294967296)) = false := by simp; omega
                clear HG
                go_wp2
                go_roundw
                case rel => exact ⟨gg - 1, ll + v1, nn + 1, rfl, rfl, HN, rfl⟩
                case measure => (simp [intOf]) <;> omega
              · have HN := Lib.hid (HG.out.broke HSC.out HHD.out (.inl hbig) (by omega))
                have hsh3 : (decide (0 < (ll + v1) / 4294967296)) = true := by simp; omega
                have hg2 := HN.out.fg
                clear HG
                go_wp2
                go_meet
                case rel => exact ⟨gg - 1, nn + 1, rfl, HN, hg2.1, hg2.2, rfl⟩
            · have hsh1 : (decide (0 < gg / 4294967296)) = false := by simp; omega
              have hor2 := or64 hfl.1 hfl.2 hr0.1 hr0.2
              have hpb := mul_lt_b hfg.1 (by omega) hv0.1 hv0.2
              by_cases hcm : ll * 4294967296 + r0 < gg * v2
              · have HCM := Lib.hid hcm
                have hcb : (decide (ll * 4294967296 + r0 < gg * v2)) = true := by simpa using hcm
                clear hcm
                have HAG := Lib.hid (fun hl => HG.out.again HSC.out (.inr HCM.out) hl)
                have HBR := Lib.hid (fun hl => HG.out.broke HSC.out HHD.out (.inr HCM.out) hl)
                have hg1 := (HG.out.less HSC.out (.inr HCM.out)).1
                clear HCM
                generalize hpr : gg * v2 = pr at *
                go_wp2_with fail
                go_big_region
                by_cases hl : ll + v1 < 4294967296
                · have HN := Lib.hid (HAG.out hl)
                  have hsh3 : (decide (0 < (ll + v1) / 4294967296)) = false := by simp; omega
                  clear HG
                  go_wp2
                  go_roundw
                  case rel => exact ⟨gg - 1, ll + v1, nn + 1, rfl, rfl, HN, rfl⟩
                  case measure => (simp [intOf]) <;> omega
                · have HN := Lib.hid (HBR.out (by omega))
                  have hsh3 : (decide (0 < (ll + v1) / 4294967296)) = true := by simp; omega
                  have hg2 := HN.out.fg
                  clear HG
                  go_wp2
                  go_meet
                  case rel => exact ⟨gg - 1, nn + 1, rfl, HN, hg2.1, hg2.2, rfl⟩
              · have hle : gg * v2 ≤ ll * 4294967296 + r0 := by omega
                have HN := Lib.hid (HG.out.stop HSC.out (by omega) hle)
                have hcb : (decide (ll * 4294967296 + r0 < gg * v2)) = false := by simpa using hcm
                have hg2 := HN.out.fg
                clear hcm HG
                generalize hpr : gg * v2 = pr at *
                go_wp2_with fail
                go_big_region
                go_wp2
                go_meet
                case rel => exact ⟨gg, nn + 1, rfl, HN, hg2.1, hg2.2, rfl⟩
        case rest =>
          obtain ⟨gg, nn, rfl, HGD, hgg0, hgg1, rfl⟩ := hcut
          clear hcb1 hcb0 hcr0 hcr0b HG HSC HHD hv1 hv0 hr0
          have HR1 := Lib.hid (show Own (wr.drewN nn) gr r from HR.out)
          have HO1 := Lib.hid (show Own (wr.drewN nn) w3.heap.size out from HO.out)
          have HB1 := Lib.hid (show Own (wr.drewN nn) gb (D (b * 2 ^ s)) from HB.out)
          have HBE1 := Lib.hid (below_then HBE.out (below_drawn (w := wr) nn))
          clear HR HO HB HBE
          generalize wr.drewN nn = wx at *
          have HST := Lib.hid (Ms.start (b := D (b * 2 ^ s)) (g := gg) (i := k) HLO.out.dig)
          go_wp2_with fail
          go_loopw [17, 18, 19] (fun c bo kk wr2 => ∃ (q : Nat) (cc bb : Int) (r2 : List Int), c = .int .u64 cc ∧ bo = .int .u64 bb ∧ kk = .int .i64 q ∧ q ≤ n + 3 ∧ Hid (Ms r (D (b * 2 ^ s)) gg k q r2 cc bb) ∧ Hid (Own wr2 gr r2) ∧ Hid (wx.grownBy wr2 (some gr))) (fun _ _ i _ => n + 3 - (intOf i).toNat)
          case atStart => exact ⟨0, 0, 0, r, rfl, rfl, rfl, by omega, HST, HR1, Lib.hid (grown_refl _ _)⟩
          case round =>
            clear HST HR1
            obtain ⟨q, cc, bb, r2, rfl, rfl, rfl, hq, HM, HR2, HG2⟩ := hrel
            by_cases hqn : q ≤ n + 2
            · have hr2l : r2.length = m + (n + 2) := by rw [HM.out.len]; exact hrl
              obtain ⟨hrow, hfro⟩ := HR2.out.cell (k := k + q) (by omega)
              have hrk := HM.out.dig.all0 (by decide) (k + q)
              by_cases hqb : q < n + 2
              · have hbk := HDS.out.dig.all0 (by decide) q
                obtain ⟨hpr0, hpr1⟩ := mul_lt_b hgg0 hgg1 hbk.1 hbk.2
                obtain ⟨lo, now, hand, hnow, hM, hcs0, hcs1, hlo0, hlo1, hnw0, hnw1, hbo0, hbo1, hcc0, hcc1⟩ := subFacts HM.out HDS.out.dig hgg0 hgg1 (by rw [HDS.out.len]; omega) (by omega) rfl
                obtain ⟨hbc, -⟩ := (HB1.out.grown HG2.out (by simp; omega)).cell (k := q) (by rw [HDS.out.len]; omega)
                have HM2 := Lib.hid hM
                have HR3 := Lib.hid (HR2.out.set (k := k + q) (by omega) (now % 4294967296))
                have HG3 := Lib.hid (grown_set (k := k + q) HG2.out (.int .u32 (now % 4294967296)))
                clear hM HM HR2 HG2 hr2l
                generalize r2.getD (k + q) 0 = x at *
                generalize (D (b * 2 ^ s)).getD q 0 = bq at *
                generalize hpr : gg * bq = pr at *
                go_wp2
                go_roundw
                case rel => exact ⟨q + 1, _, _, _, rfl, rfl, by go_num, by omega, HM2, HR3, HG3⟩
                case measure => (simp [intOf]) <;> omega
              · obtain rfl : q = n + 2 := by omega
                have hbz : (D (b * 2 ^ s)).getD (n + 2) 0 = 0 := getD_ge (by rw [HDS.out.len]; omega)
                obtain ⟨lo, now, hand, hnow, hM, hcs0, hcs1, hlo0, hlo1, hnw0, hnw1, hbo0, hbo1, hcc0, hcc1⟩ := subFacts (cs := cc) HM.out HDS.out.dig hgg0 hgg1 (by rw [HDS.out.len]; omega) (by omega) (by rw [hbz, Int.mul_zero, Int.add_zero])
                have HM2 := Lib.hid hM
                have HR3 := Lib.hid (HR2.out.set (k := k + (n + 2)) (by omega) (now % 4294967296))
                have HG3 := Lib.hid (grown_set (k := k + (n + 2)) HG2.out (.int .u32 (now % 4294967296)))
                clear hM HM HR2 HG2 hr2l hbz
                generalize r2.getD (k + (n + 2)) 0 = x at *
                go_wp2
                go_roundw
                case rel => exact ⟨n + 2 + 1, _, _, _, rfl, rfl, by go_num, by omega, HM2, HR3, HG3⟩
                case measure => (simp [intOf]) <;> omega
            · obtain rfl : q = n + 3 := by omega
              have hr2l : r2.length = m + (n + 2) := by rw [HM.out.len]; exact hrl
              obtain rfl : cc = 0 := HM.out.fin (by rw [HDS.out.len]; omega)
              have HBC := Lib.hid (HB1.out.grown HG2.out (by simp; omega))
              have HOC := Lib.hid (HO1.out.grown HG2.out (by simp; omega))
              have HBEC := Lib.hid (below_grown HBE1.out HG2.out (by omega))
              rcases HM.out.fb with hbb | hbb
              · subst hbb
                have hL := right HLO.out (by omega) HGD.out (by have := HM.out; rw [HDS.out.len]; exact this)
                obtain ⟨hrow, hfro⟩ := HOC.out.cell (k := k) (by omega)
                have HO2 := Lib.hid (HOC.out.set (k := k) (by omega) gg)
                have HB2 := Lib.hid (HBC.out.far (p := ⟨w3.heap.size, k, none⟩) (by simp; omega) (.int .u32 gg))
                have HR3 := Lib.hid (HR2.out.far (p := ⟨w3.heap.size, k, none⟩) (by simp; omega) (.int .u32 gg))
                have HBE2 := Lib.hid (HBEC.out.setCell (p := ⟨w3.heap.size, k, none⟩) (by simp; omega) (.int .u32 gg))
                have HL := Lib.hid hL
                clear hL HM HBC HOC HBEC HR2 HG2 HLO HGD HB1 HO1 HBE1 HQ HRT HSR
                generalize out.getD k 0 = y at *
                go_wp2
                go_roundw
                case rel => exact ⟨k, (k : Int) - 1, r2, out.set k gg, rfl, by omega, by omega, hr2l, by rw [List.length_set]; exact hol, HL, HR3, HO2, HB2, HBE2⟩
                case measure => (simp [intOf]) <;> omega
              · subst hbb
                have hg2 := HGD.out.fg
                have HAS := Lib.hid (Ab.start (b := D (b * 2 ^ s)) (i := k) HM.out.dig)
                have HGG := Lib.hid (show ∀ (c : Int) (r3 : List Int), Ab r2 (D (b * 2 ^ s)) k (n + 3) r3 c → Lo ((a * 2 ^ s : Nat) : Int) (D (b * 2 ^ s)) k r3 (out.set k (gg - 1)) ∧ 1 ≤ gg from fun c r3 hA =>
                  back HLO.out HDS.out.dig (by omega) HGD.out (by have := HM.out; rw [HDS.out.len]; exact this) (by rw [HDS.out.len]; exact hA))
                have hg1 : 1 ≤ gg := by
                  have h3 := HM.out.inv
                  rcases Int.lt_or_le gg 1 with h4 | h4
                  · exfalso
                    obtain rfl : gg = 0 := by omega
                    have hlt := val_lt (B := 4294967296) (by decide) HM.out.dig
                    have hz := HLO.out.zeros HDS.out.dig
                    have h6 := lt_of_zeros (m := k + (n + 3)) HM.out.dig (fun j hj => (HM.out.far j hj).trans (hz j (by rw [HDS.out.len]; omega)))
                    have h7 := val_nonneg HLO.out.dig
                    rw [Int.zero_mul, Int.zero_mul, Int.sub_zero, Int.zero_add, Int.one_mul] at h3
                    omega
                  · exact h4
                have hdr := HM.out.dig
                clear HM HLO HGD HB1 HO1 HBE1 HQ HRT HSR HG2
                go_wp2_with fail
                go_loopw [21, 22] (fun c kk wr3 => ∃ (q : Nat) (cc : Int) (r3 : List Int), c = .int .u64 cc ∧ kk = .int .i64 q ∧ q ≤ n + 3 ∧ Hid (Ab r2 (D (b * 2 ^ s)) k q r3 cc) ∧ Hid (Own wr3 gr r3) ∧ Hid (wr.grownBy wr3 (some gr))) (fun _ i _ => n + 3 - (intOf i).toNat)
                case atStart => exact ⟨0, 0, r2, rfl, rfl, by omega, HAS, HR2, Lib.hid (grown_refl _ _)⟩
                case round =>
                  clear HAS HR2 hdr
                  obtain ⟨q, cc, r3, rfl, rfl, hq3, HA, HR3, HG3⟩ := hrel
                  have hr3l : r3.length = m + (n + 2) := by rw [HA.out.len]; exact hr2l
                  by_cases hqn3 : q ≤ n + 2
                  · obtain ⟨hrow, hfro⟩ := HR3.out.cell (k := k + q) (by omega)
                    have hrk := HA.out.dig.all0 (by decide) (k + q)
                    by_cases hqb : q < n + 2
                    · have hbk := HDS.out.dig.all0 (by decide) q
                      obtain ⟨hA2, hc0, hc1, hcc0, hcc1⟩ := addFacts HA.out HDS.out.dig (by omega) rfl
                      obtain ⟨hbc, -⟩ := (HBC.out.grown HG3.out (by simp; omega)).cell (k := q) (by rw [HDS.out.len]; omega)
                      have HA3 := Lib.hid hA2
                      have HR4 := Lib.hid (HR3.out.set (k := k + q) (by omega) ((cc + r3.getD (k + q) 0 + (D (b * 2 ^ s)).getD q 0) % 4294967296))
                      have HG4 := Lib.hid (grown_set (k := k + q) HG3.out (.int .u32 ((cc + r3.getD (k + q) 0 + (D (b * 2 ^ s)).getD q 0) % 4294967296)))
                      clear hA2 HA HR3 HG3 hr3l
                      generalize r3.getD (k + q) 0 = x at *
                      generalize (D (b * 2 ^ s)).getD q 0 = bq at *
                      go_wp2
                      go_roundw
                      case rel => exact ⟨q + 1, _, _, rfl, by go_num, by omega, HA3, HR4, HG4⟩
                      case measure => (simp [intOf]) <;> omega
                    · obtain rfl : q = n + 2 := by omega
                      have hbz : (D (b * 2 ^ s)).getD (n + 2) 0 = 0 := getD_ge (by rw [HDS.out.len]; omega)
                      obtain ⟨hA2, hc0, hc1, hcc0, hcc1⟩ := addFacts (cc := cc + r3.getD (k + (n + 2)) 0) HA.out HDS.out.dig (by omega) (by rw [hbz, Int.add_zero])
                      have HA3 := Lib.hid hA2
                      have HR4 := Lib.hid (HR3.out.set (k := k + (n + 2)) (by omega) ((cc + r3.getD (k + (n + 2)) 0) % 4294967296))
                      have HG4 := Lib.hid (grown_set (k := k + (n + 2)) HG3.out (.int .u32 ((cc + r3.getD (k + (n + 2)) 0) % 4294967296)))
                      clear hA2 HA HR3 HG3 hr3l hbz
                      generalize r3.getD (k + (n + 2)) 0 = x at *
                      go_wp2
                      go_roundw
                      case rel => exact ⟨n + 2 + 1, _, _, rfl, by go_num, by omega, HA3, HR4, HG4⟩
                      case measure => (simp [intOf]) <;> omega
                  · obtain rfl : q = n + 3 := by omega
                    obtain ⟨hL, -⟩ := HGG.out cc r3 HA.out
                    have hOC2 := HOC.out.grown HG3.out (by simp; omega)
                    have hBE3 := below_grown HBEC.out HG3.out (by omega)
                    obtain ⟨hrow, hfro⟩ := hOC2.cell (k := k) (by omega)
                    have HO2 := Lib.hid (hOC2.set (k := k) (by omega) (gg - 1))
                    have HB2 := Lib.hid ((HBC.out.grown HG3.out (by simp; omega)).far (p := ⟨w3.heap.size, k, none⟩) (by simp; omega) (.int .u32 (gg - 1)))
                    have HR4 := Lib.hid (HR3.out.far (p := ⟨w3.heap.size, k, none⟩) (by simp; omega) (.int .u32 (gg - 1)))
                    have HBE2 := Lib.hid (hBE3.setCell (p := ⟨w3.heap.size, k, none⟩) (by simp; omega) (.int .u32 (gg - 1)))
                    have HL := Lib.hid hL
                    clear hL HA HBC HOC HBEC HR3 HG3 HGG hOC2 hBE3
                    generalize out.getD k 0 = y at *
                    go_wp2
                    go_roundw
                    case rel => exact ⟨k, (k : Int) - 1, r3, out.set k (gg - 1), rfl, by omega, by omega, hr3l, by rw [List.length_set]; exact hol, HL, HR4, HO2, HB2, HBE2⟩
                    case measure => (simp [intOf]) <;> omega
end Go.Proofs.Ythanlckjfghnkaa.Td
end
section
set_option linter.unusedVariables false
set_option linter.unusedSimpArgs false
namespace Go.Proofs.Ythanlckjfghnkaa.Tf
open Go.RowKit Go.Proofs.YthanlckjfghnkaaW.PrintWords Go.Proofs.Ythanlckjfghnkaa.PW Go.Proofs.Ythanlckjfghnkaa.Pc Go.Proofs.Ythanlckjfghnkaa.Ma Go.Proofs.Ythanlckjfghnkaa.Mb Go.Proofs.Ythanlckjfghnkaa.Mc Go.Proofs.Ythanlckjfghnkaa.Md Go.Proofs.Ythanlckjfghnkaa.Me Go.Proofs.Ythanlckjfghnkaa.Mf Go.Proofs.Ythanlckjfghnkaa.Dy Go.Proofs.Ythanlckjfghnkaa.Ta Go.Proofs.Ythanlckjfghnkaa.Tb Go.Proofs.Ythanlckjfghnkaa.Tc Dg Go.Proofs.Ythanlckjfghnkaa.Dv Go.Proofs.Ythanlckjfghnkaa.Dw Go.Proofs.Ythanlckjfghnkaa.Dx Go.Proofs.Ythanlckjfghnkaa.Du
theorem divH {w : World} {A B : Option Addr} {c d a b : Nat} (ha : Mg w A c (D a)) (hb : Mg w B d (D b)) (h1 : bl a ≤ 268435456) (h2 : bl b ≤ 268435456) (h0 : b ≠ 0) :
    Calls Try.prog 77 #[.slice A (D a).length c, .slice B (D b).length d] w (GivesTwo w (a / b) (a % b)) := by
  rcases Nat.lt_or_ge a b with h | h
  · exact divSmall ha hb h1 h2 h
  · rcases Nat.lt_or_ge b 4294967296 with h3 | h3
    · exact divOne ha hb h1 h0 h3 h
    · refine Td.divLong ha hb h1 ?_ h
      have : b < 4294967296 ^ (D b).length := lt_of_dg_length _
      rcases Nat.lt_or_ge (D b).length 2 with h4 | h4
      · exfalso
        rcases (show (D b).length = 0 ∨ (D b).length = 1 by omega) with h5 | h5
        · rw [h5] at this; omega
        · rw [h5] at this; omega
      · exact h4
theorem tdiv_sign (x y : Int) : (if (decide (x < 0) != decide (y < 0)) = true then -((x.natAbs / y.natAbs : Nat) : Int) else ((x.natAbs / y.natAbs : Nat) : Int)) = x.tdiv y := by
  have key : ∀ m n : Nat, ((m / n : Nat) : Int) = (m : Int).tdiv n := fun m n => rfl
  rw [key]
  by_cases hx : x < 0 <;> by_cases hy : y < 0
  · rw [show (x.natAbs : Int) = -x by omega, show (y.natAbs : Int) = -y by omega]; simp [hx, hy, Int.neg_tdiv, Int.tdiv_neg]
  · rw [show (x.natAbs : Int) = -x by omega, show (y.natAbs : Int) = y by omega]; simp [hx, hy, Int.neg_tdiv]
  · rw [show (x.natAbs : Int) = x by omega, show (y.natAbs : Int) = -y by omega]; simp [hx, hy, Int.tdiv_neg]
  · rw [show (x.natAbs : Int) = x by omega, show (y.natAbs : Int) = y by omega]; simp [hx, hy]
theorem tmod_sign (x y : Int) : (if decide (x < 0) = true then -((x.natAbs % y.natAbs : Nat) : Int) else ((x.natAbs % y.natAbs : Nat) : Int)) = x.tmod y := by
  have key : ∀ m n : Nat, ((m % n : Nat) : Int) = (m : Int).tmod n := fun m n => rfl
  rw [key]
  by_cases hx : x < 0 <;> by_cases hy : y < 0
  · rw [show (x.natAbs : Int) = -x by omega, show (y.natAbs : Int) = -y by omega]; simp [hx, Int.neg_tmod, Int.tmod_neg]
  · rw [show (x.natAbs : Int) = -x by omega, show (y.natAbs : Int) = y by omega]; simp [hx, Int.neg_tmod]
  · rw [show (x.natAbs : Int) = x by omega, show (y.natAbs : Int) = -y by omega]; simp [hx, Int.tmod_neg]
  · rw [show (x.natAbs : Int) = x by omega, show (y.natAbs : Int) = y by omega]; simp [hx]
def Two (w : World) (p r : Nat) (zq zr : Int) (e : Ending) (w' : World) : Prop :=
  e = .returned (.tuple #[.pointer (some ⟨p, 0, none⟩), .pointer (some ⟨r, 0, none⟩)]) ∧ Z w' p zq ∧ Z w' r zr ∧ ∃ w1, w.grownBy w1 (some r) ∧ w1.grownBy w' (some p)
set_option maxHeartbeats 3200000 in
set_option maxRecDepth 100000 in
theorem quoRem {w : World} {p q s r : Nat} {x y : Int} (hp : Blk w p) (hr : Blk w r) (hx : Z w q x) (hy : Z w s y) (h1 : bl x.natAbs ≤ 268435456) (h2 : bl y.natAbs ≤ 268435456) (h0 : y ≠ 0) (hpr : p ≠ r) :
    Calls Try.prog 42 #[.pointer (some ⟨p, 0, none⟩), .pointer (some ⟨q, 0, none⟩), .pointer (some ⟨s, 0, none⟩), .pointer (some ⟨r, 0, none⟩)] w (Two w p r (x.tdiv y) (x.tmod y)) := by
  obtain ⟨A, c, k0, k1, hm, hq⟩ := Z.open hx
  obtain ⟨B, d, j0, j1, hn, hs⟩ := Z.open hy
  have hL : ∀ (W : World), Below w.heap.size w W → Calls Try.prog 77 #[.slice A (D x.natAbs).length c, .slice B (D y.natAbs).length d] W (GivesTwo w (x.natAbs / y.natAbs) (x.natAbs % y.natAbs)) := fun W hb =>
    (divH (hm.below hb) (hn.below hb) (by omega) (by omega) (by omega)).mono fun e w' h => by
      obtain ⟨A1, c1, B1, d1, he, g1, g2, g3⟩ := h
      exact ⟨A1, c1, B1, d1, he, g1, g2, below_then hb g3⟩
  have hbm : bl (x.natAbs % y.natAbs) ≤ bl x.natAbs := bl_mono (Nat.mod_le _ _)
  have hbd : bl (x.natAbs / y.natAbs) ≤ bl x.natAbs := bl_mono (Nat.div_le_self _ _)
  have hP1 := fun (w1 : World) (A' : Option Addr) (c' : Nat) (hb : Below w.heap.size w w1) (hm : Mg w1 A' c' (D (x.natAbs % y.natAbs))) => put_of (w := w1) (neg := decide (x < 0)) (hr.below hb) (Below.refl _ _) hm (by omega)
  have hP2 := fun (w1 w2 : World) (A' : Option Addr) (c' : Nat) (hb : Below w.heap.size w w1) (hg : w1.grownBy w2 (some r)) (hm : Mg w1 A' c' (D (x.natAbs / y.natAbs))) => put_of (w := w2) (neg := decide (x < 0) != decide (y < 0)) ((hp.below hb).grown hg hpr) (Below.refl _ _) (hm.grown hg (hr.below hb)) (by omega)
  rw [tmod_sign] at hP1
  rw [tdiv_sign] at hP2
  have hK : ∀ w1, Below w.heap.size w w1 → (w1.cell? ⟨q, 0, none⟩ = some (.bool (decide (x < 0))) ∧ w1.cell? ⟨s, 0, none⟩ = some (.bool (decide (y < 0)))) := fun w1 hb => ⟨(hb.cell (p := ⟨q, 0, none⟩) hq).trans k0, (hb.cell (p := ⟨s, 0, none⟩) hs).trans j0⟩
  have hE : ∀ (w1 w2 w3 : World), Below w.heap.size w w1 → w1.grownBy w2 (some r) → Z w2 r (x.tmod y) → w2.grownBy w3 (some p) → Z w3 p (x.tdiv y) → Two w p r (x.tdiv y) (x.tmod y) (.returned (.tuple #[.pointer (some ⟨p, 0, none⟩), .pointer (some ⟨r, 0, none⟩)])) w3 := fun w1 w2 w3 hb g1 z1 g2 z2 =>
    ⟨rfl, z2, z1.grown g2 ((hp.below hb).grown g1 hpr) (fun e => hpr e.symm), w2, grown_trans (grown_below hb _) g1, g2⟩
  have HL := Lib.hid hL
  have HP1 := Lib.hid hP1
  have HP2 := Lib.hid hP2
  have HK := Lib.hid hK
  have HE := Lib.hid hE
  clear hL hP1 hP2 hK hE hbm hbd h1 h2 hm hn hp hr hx hy hpr h0
  generalize x.tdiv y = zq at *
  generalize x.tmod y = zr at *
  generalize hb1 : decide (x < 0) = b1 at *
  generalize hb2 : decide (y < 0) = b2 at *
  clear hb1 hb2
  generalize x.natAbs / y.natAbs = q0 at *
  generalize x.natAbs % y.natAbs = r0 at *
  generalize (D x.natAbs).length = la at *
  generalize (D y.natAbs).length = lb at *
  go_enter Try.func42, Try.ntmps42
  go_wp2
  go_region_with (go_at_call 77; refine (HL.out _ (by first | exact Below.refl _ _ | exact (Below.refl _ _).drew)).mono ?_; rintro e w1 ⟨A1, c1, B1, d1, rfl, hmq, hmr, hb⟩; have HMQ := Lib.hid hmq; have HMR := Lib.hid hmr; have HB := Lib.hid hb; obtain ⟨a0, a1⟩ := HK.out w1 hb; clear hmq hmr hb)
  all_goals go_wp2_with fail
  all_goals go_region
  all_goals go_wp2_with fail
  all_goals refine (HP1.out w1.drew B1 d1 HB.out.drew (HMR.out.below (Below.refl _ _).drew)).mono ?_
  all_goals rintro e w2 ⟨rfl, hz2, hg2⟩
  all_goals have HP3 := Lib.hid (HP2.out w1.drew w2 A1 c1 HB.out.drew hg2 (HMQ.out.below (Below.refl _ _).drew))
  all_goals have HZ2 := Lib.hid hz2
  all_goals have HG2 := Lib.hid hg2
  all_goals clear hz2 hg2
  all_goals go_wp2_with fail
  all_goals refine HP3.out.mono ?_
  all_goals rintro e w3 ⟨rfl, hz3, hg3⟩
  all_goals have HE3 := Lib.hid (HE.out w1.drew w2 w3 HB.out.drew HG2.out HZ2.out hg3 hz3)
  all_goals clear hz3 hg3
  all_goals go_wp2
  all_goals go_ret2
  all_goals exact HE3.out
end Go.Proofs.Ythanlckjfghnkaa.Tf
end
section
set_option linter.unusedVariables false
set_option linter.unusedSimpArgs false
namespace Go.Proofs.Ythanlckjfghnkaa.PW
open Go.RowKit Go.Proofs.YthanlckjfghnkaaW.PrintWords Go.Proofs.Ythanlckjfghnkaa.Pc Go.Proofs.Ythanlckjfghnkaa.Pb Go.Proofs.Ythanlckjfghnkaa.Pw Go.Proofs.Ythanlckjfghnkaa.Ma Go.Proofs.Ythanlckjfghnkaa.Mb Go.Proofs.Ythanlckjfghnkaa.Mc Go.Proofs.Ythanlckjfghnkaa.Md Go.Proofs.Ythanlckjfghnkaa.Me Go.Proofs.Ythanlckjfghnkaa.Mg Go.Proofs.Ythanlckjfghnkaa.Mh Go.Proofs.Ythanlckjfghnkaa.Mn Go.Proofs.Ythanlckjfghnkaa.Mq Go.Proofs.Ythanlckjfghnkaa.Mr Go.Proofs.Ythanlckjfghnkaa.Mu Dg
def impl_DivideWholes.f (a0_0 : Int) (l0_1 : List Int) (a1_0 : Int) (l1_1 : List Int) : Option (Int × List Int × Int × List Int × Int) := some (if isW a0_0 l0_1 = true ∧ isW a1_0 l1_1 = true then (if a1_0 = 0 then (0, [], 0, [], 5) else (Pm.sgn ((wv a0_0 l0_1).tdiv (wv a1_0 l1_1)), L ((wv a0_0 l0_1).tdiv (wv a1_0 l1_1)).natAbs, Pm.sgn ((wv a0_0 l0_1).tmod (wv a1_0 l1_1)), L ((wv a0_0 l0_1).tmod (wv a1_0 l1_1)).natAbs, 0)) else (0, [], 0, [], 1))
theorem fourBoxes (w : World) (a0 : Int) (A0 : Option Addr) (n0 c0 : Nat) (a1 : Int) (A1 : Option Addr) (n1 c1 : Nat) : ∀ W, Below (w.heap.size + 4) ((((w.alloc (.cells #[.int .i64 a0, .slice A0 n0 c0] 26)).alloc (.cells #[.int .i64 a1, .slice A1 n1 c1] 26)).alloc (.cells #[.int .i64 0, .slice none 0 0] 26)).alloc (.cells #[.int .i64 0, .slice none 0 0] 26)) W →
    Below w.heap.size w W ∧ W.cell? ⟨w.heap.size, 0, none⟩ = some (.int .i64 a0) ∧ W.cell? ⟨w.heap.size, 1, none⟩ = some (.slice A0 n0 c0) ∧ W.cell? ⟨w.heap.size + 1, 0, none⟩ = some (.int .i64 a1) ∧ W.cell? ⟨w.heap.size + 1, 1, none⟩ = some (.slice A1 n1 c1) ∧ (w.heap.size + 4 ≤ W.heap.size ∧ w.heap.size < W.heap.size ∧ w.heap.size + 1 < W.heap.size ∧ w.heap.size + 1 + 1 < W.heap.size ∧ w.heap.size + 1 + 1 + 1 < W.heap.size) ∧ W.heap[w.heap.size + 1 + 1]? = some (.cells #[.int .i64 0, .slice none 0 0] 26 (0, 0)) ∧ W.heap[w.heap.size + 1 + 1 + 1]? = some (.cells #[.int .i64 0, .slice none 0 0] 26 (0, 0)) := by
  intro W hW
  generalize hV : ((w.alloc (.cells #[.int .i64 a0, .slice A0 n0 c0] 26)).alloc (.cells #[.int .i64 a1, .slice A1 n1 c1] 26)).alloc (.cells #[.int .i64 0, .slice none 0 0] 26) = V at hW
  have e3 : V.heap.size = w.heap.size + 3 := by rw [← hV, alloc_size, alloc_size, alloc_size]
  have hb := Ma.below_alloc V (.cells #[.int .i64 0, .slice none 0 0] 26)
  have hz := heap_alloc_new V (.cells #[.int .i64 0, .slice none 0 0] 26)
  have hs := hW.size
  rw [alloc_size] at hs
  rw [e3] at hb hz hs
  obtain ⟨h1, h2, h3, h4, h5, h6, h7⟩ := threeBoxes w a0 A0 n0 c0 a1 A1 n1 c1 W (by rw [hV]; exact hb.trans (hW.mono (by omega)))
  exact ⟨h1, h2, h3, h4, h5, ⟨hs, by omega, by omega, by omega, by omega⟩, h7, (hW.block _ (by omega)).trans hz⟩
def BS (B : Nat) (a w : World) : Prop := Below B a w ∧ B ≤ w.heap.size
theorem BS.drew {B : Nat} {a w : World} (h : BS B a w) : BS B a w.drew := ⟨h.1.drew, h.2⟩
theorem BS.alloc {B : Nat} {a w : World} (h : BS B a w) (o : Obj) : BS B a (w.alloc o) := ⟨h.1.alloc h.2 o, by rw [alloc_size]; exact Nat.le_succ_of_le h.2⟩
theorem BS.call {B : Nat} {a w w1 : World} (h : BS B a w) (k : Below w.heap.size w w1) : BS B a w1 := ⟨h.1.trans (k.mono h.2), Nat.le_trans h.2 k.size⟩
theorem BS.put {B q : Nat} {a w w1 : World} (h : BS B a w) (k : w.grownBy w1 (some q)) (hq : B ≤ q) : BS B a w1 := ⟨below_put h.1 k hq h.2, Nat.le_trans h.2 k.size⟩
theorem Z.alloc' {w : World} {p : Nat} {z : Int} (h : Z w p z) (o : Obj) : Z (w.alloc o) p z := h.below (Ma.below_alloc w o)
theorem Z.drew' {w : World} {p : Nat} {z : Int} (h : Z w p z) : Z w.drew p z := h.below (Below.refl _ _).drew
theorem Blk.alloc' {w : World} {p : Nat} (h : Blk w p) (o : Obj) : Blk (w.alloc o) p := h.below (Ma.below_alloc w o)
theorem Blk.drew' {w : World} {p : Nat} (h : Blk w p) : Blk w.drew p := h.below (Below.refl _ _).drew
theorem Blk.new1 (w : World) (o : Obj) : Blk ((w.alloc o).alloc (.cells #[.bool false, .slice none 0 0] 57)) (w.heap.size + 1) := by
  have := (Z.new (w.alloc o)).blk
  rwa [alloc_size] at this
theorem Blk.new1d (w : World) (o : Obj) : Blk ((w.alloc o).drew.alloc (.cells #[.bool false, .slice none 0 0] 57)) (w.heap.size + 1) := by
  have := (Z.new (w.alloc o).drew).blk
  have e : (w.alloc o).drew.heap.size = w.heap.size + 1 := alloc_size w o
  rwa [e] at this
theorem drew_size (w : World) : w.drew.heap.size = w.heap.size := rfl
theorem storedTwo {w W : World} {g g' : Nat} {s s' : Int} {u v : Value} {l m : List Int} (hg : W.heap[g]? = some (.cells #[.int .i64 0, .slice none 0 0] 26 (0, 0))) (hg' : W.heap[g']? = some (.cells #[.int .i64 0, .slice none 0 0] 26 (0, 0))) (hne : g ≠ g') (hb : Below w.heap.size w W) (hw : w.heap.size ≤ g) (hw' : w.heap.size ≤ g')
    (hR : Kd.R (Kd.int .i64) 2 W w.heap.size (fun k_ => some k_ ≠ (v : Value).ownBlock) u l) (hS : Kd.R (Kd.int .i64) 2 W w.heap.size (fun k_ => some k_ ≠ (u : Value).ownBlock) v m) :
    ((((W.setCell ⟨g, 0, none⟩ (.int .i64 s)).setCell ⟨g, 1, none⟩ u).setCell ⟨g', 0, none⟩ (.int .i64 s')).setCell ⟨g', 1, none⟩ v).heap[g]? = some (.cells #[.int .i64 s, u] 26 (0, 0)) ∧
    ((((W.setCell ⟨g, 0, none⟩ (.int .i64 s)).setCell ⟨g, 1, none⟩ u).setCell ⟨g', 0, none⟩ (.int .i64 s')).setCell ⟨g', 1, none⟩ v).heap[g']? = some (.cells #[.int .i64 s', v] 26 (0, 0)) ∧
    Kd.R (Kd.int .i64) 2 ((((W.setCell ⟨g, 0, none⟩ (.int .i64 s)).setCell ⟨g, 1, none⟩ u).setCell ⟨g', 0, none⟩ (.int .i64 s')).setCell ⟨g', 1, none⟩ v) w.heap.size (fun k_ => some k_ ≠ (v : Value).ownBlock) u l ∧
    Kd.R (Kd.int .i64) 2 ((((W.setCell ⟨g, 0, none⟩ (.int .i64 s)).setCell ⟨g, 1, none⟩ u).setCell ⟨g', 0, none⟩ (.int .i64 s')).setCell ⟨g', 1, none⟩ v) w.heap.size (fun k_ => some k_ ≠ (u : Value).ownBlock) v m ∧
    Below w.heap.size w ((((W.setCell ⟨g, 0, none⟩ (.int .i64 s)).setCell ⟨g, 1, none⟩ u).setCell ⟨g', 0, none⟩ (.int .i64 s')).setCell ⟨g', 1, none⟩ v) := by
  have a1 := blk_set hg 0 (.int .i64 s)
  have a2 := blk_set a1 1 u
  have b1 := blk_far hg' (p := ⟨g, 0, none⟩) (fun e => hne e.symm) (.int .i64 s)
  have b2 := blk_far b1 (p := ⟨g, 1, none⟩) (fun e => hne e.symm) u
  have b3 := blk_set b2 0 (.int .i64 s')
  have b4 := blk_set b3 1 v
  have a3 := blk_far a2 (p := ⟨g', 0, none⟩) hne (.int .i64 s')
  have a4 := blk_far a3 (p := ⟨g', 1, none⟩) hne v
  have st : ∀ {ok : Nat → Prop} {x : Value} {xs : List Int}, Kd.R (Kd.int .i64) 2 W w.heap.size ok x xs → Kd.R (Kd.int .i64) 2 ((((W.setCell ⟨g, 0, none⟩ (.int .i64 s)).setCell ⟨g, 1, none⟩ u).setCell ⟨g', 0, none⟩ (.int .i64 s')).setCell ⟨g', 1, none⟩ v) w.heap.size ok x xs :=
    fun h => Kd.R_set (Kd.R_set (Kd.R_set (Kd.R_set h hg (by decide) 0 _) a1 (by decide) 1 _) b2 (by decide) 0 _) b3 (by decide) 1 _
  exact ⟨a4, b4, st hR, st hS, (((hb.setCell (p := ⟨g, 0, none⟩) hw _).setCell (p := ⟨g, 1, none⟩) hw _).setCell (p := ⟨g', 0, none⟩) hw' _).setCell (p := ⟨g', 1, none⟩) hw' _⟩
theorem twoRows {w w5 w6 w7 w8 : World} {u v : Value} {l m : List Int} (h1 : Kd.R (Kd.int .i64) 2 w6 w5.heap.size (fun _ => True) u l) (h5 : w.heap.size ≤ w5.heap.size) (hb7 : Below w6.heap.size w6 w7) (h6 : w.heap.size ≤ w6.heap.size)
    (h2 : Kd.R (Kd.int .i64) 2 w8 w7.heap.size (fun _ => True) v m) (hb8 : Below w7.heap.size w7 w8) :
    Kd.R (Kd.int .i64) 2 w8 w.heap.size (fun k_ => some k_ ≠ (v : Value).ownBlock) u l ∧ Kd.R (Kd.int .i64) 2 w8 w.heap.size (fun k_ => some k_ ≠ (u : Value).ownBlock) v m := by
  have hu := Kd.R_below h1 hb7
  have a := Kd.R_elder' hu (Kd.R_base h2) hb8
  have b := Kd.R_new' h2 (Kd.R_lt hu)
  exact ⟨Kd.R_mono (Kd.R_lower a h5) (fun k hk => hk.2), Kd.R_mono (Kd.R_lower b (Nat.le_trans h6 hb7.size)) (fun k hk => hk.2)⟩
set_option maxHeartbeats 20000000 in
set_option maxRecDepth 20000 in
theorem impl_DivideWholes.calls (a0_0 : Int) (A0_1 : Option Addr) (c0_1 : Nat) (l0_1 : List Int) (a1_0 : Int) (A1_1 : Option Addr) (c1_1 : Nat) (l1_1 : List Int) (r1 : Int) (r2 : List Int) (r3 : Int) (r4 : List Int) (r5 : Int) (w : World) (hr0_1 : Kd.C (Kd.int .i64) w A0_1 l0_1.length l0_1) (hc0_1 : l0_1.length ≤ c0_1) (hr1_1 : Kd.C (Kd.int .i64) w A1_1 l1_1.length l1_1) (hc1_1 : l1_1.length ≤ c1_1) (h : impl_DivideWholes.f a0_0 l0_1 a1_0 l1_1 = some (r1, r2, r3, r4, r5)) :
    Calls Try.prog 17 #[.agg #[.int .i64 a0_0, .slice A0_1 l0_1.length c0_1], .agg #[.int .i64 a1_0, .slice A1_1 l1_1.length c1_1]] w fun e w' => ∃ v1_ v3_ : Value, e = .returned (.tuple #[.agg #[.int .i64 r1, v1_], .agg #[.int .i64 r3, v3_], .int .i64 r5]) ∧ Kd.R (Kd.int .i64) 2 w' w.heap.size (fun k_ => some k_ ≠ (v3_ : Value).ownBlock) v1_ r2 ∧ Kd.R (Kd.int .i64) 2 w' w.heap.size (fun k_ => some k_ ≠ (v1_ : Value).ownBlock) v3_ r4 ∧ Below w.heap.size w w' := by
  unfold impl_DivideWholes.f at h
  replace h := Option.some.inj h
  have hI := fun (W : World) (hb : Below w.heap.size w W) => cIs (s := a0_0) (C_at hr0_1 hb) hc0_1 hr0_1.2.1
  have hJ := fun (W : World) (hb : Below w.heap.size w W) => cIs (s := a1_0) (C_at hr1_1 hb) hc1_1 hr1_1.2.1
  have HJ := Lib.hid hJ
  have HI := Lib.hid hI
  clear hI hJ
  have HBW := Lib.hid (fourBoxes w a0_0 A0_1 l0_1.length c0_1 a1_0 A1_1 l1_1.length c1_1)
  cases hw : isW a0_0 l0_1 with
  | false =>
    rw [hw] at h HI
    rw [if_neg (by simp)] at h
    obtain ⟨rfl, h2⟩ := Prod.mk.inj h
    obtain ⟨rfl, h3⟩ := Prod.mk.inj h2
    obtain ⟨rfl, h4⟩ := Prod.mk.inj h3
    obtain ⟨rfl, rfl⟩ := Prod.mk.inj h4
    clear h h2 h3 h4 hw hr0_1 hc0_1 hr1_1 hc1_1 HJ
    go_enter Try.func17, Try.ntmps17
    go_wp2_with fail
    refine (HI.out _ (HBW.out _ (Below.refl _ _)).1).mono ?_
    rintro e w1 ⟨rfl, hb⟩
    obtain ⟨h1', c0, c1, d0, d1, ⟨hs, i0, i1, i2, i3⟩, hbx, hby⟩ := HBW.out _ (hb.mono (by simp))
    have HB1 := Lib.hid h1'
    have HBX := Lib.hid hbx
    have HBY := Lib.hid hby
    obtain ⟨e0, e1, f0, f1⟩ := cellsOf hbx
    obtain ⟨e2, e3, f2, f3⟩ := cellsOf hby
    clear hb h1' hbx hby
    go_wp2
    have hst := storedTwo (s := 0) (u := .slice none 0 0) (s' := 0) (v := .slice none 0 0) HBX.out HBY.out (by omega) HB1.out (by omega) (by omega) (Kd.R_nil _ _ _ _ _) (Kd.R_nil _ _ _ _ _)
    refine bodyPost_ret (results_list (rs := [.cell 4 26, .cell 5 26, .tmp 6]) rfl (by simp) (.cell (w.heap.size + 1 + 1) 26 #[.int .i64 0, .slice none 0 0] (0, 0) _ rfl hst.1 Try.underlying26 rfl sizeW (.cell (w.heap.size + 1 + 1 + 1) 26 #[.int .i64 0, .slice none 0 0] (0, 0) _ rfl hst.2.1 Try.underlying26 rfl sizeW (.tmp .nil)))) rfl ?_
    exact ⟨_, _, rfl, hst.2.2.1, hst.2.2.2.1, hst.2.2.2.2⟩
  | true =>
    rw [hw] at h HI
    cases hx : isW a1_0 l1_1 with
    | false =>
      rw [hx] at h HJ
      rw [if_neg (by simp)] at h
      obtain ⟨rfl, h2⟩ := Prod.mk.inj h
      obtain ⟨rfl, h3⟩ := Prod.mk.inj h2
      obtain ⟨rfl, h4⟩ := Prod.mk.inj h3
      obtain ⟨rfl, rfl⟩ := Prod.mk.inj h4
      clear h h2 h3 h4 hw hx hr0_1 hc0_1 hr1_1 hc1_1
      go_enter Try.func17, Try.ntmps17
      go_wp2_with fail
      refine (HI.out _ (HBW.out _ (Below.refl _ _)).1).mono ?_
      rintro e w1 ⟨rfl, hb⟩
      obtain ⟨h1', c0, c1, d0, d1, ⟨hs, i0, i1, i2, i3⟩, hbx, hby⟩ := HBW.out _ (hb.mono (by simp))
      have HB1 := Lib.hid h1'
      have HB2 := Lib.hid (hb.mono (B' := w.heap.size + 4) (by simp))
      clear hb h1' hbx hby
      go_wp2_with fail
      refine (HJ.out _ HB1.out).mono ?_
      rintro e w2 ⟨rfl, hb⟩
      have HB3 := Lib.hid (HB2.out.trans (hb.mono hs))
      clear hb HB1 HB2 c0 c1 d0 d1 hs i0 i1 i2 i3
      obtain ⟨h1', c0, c1, d0, d1, ⟨hs, i0, i1, i2, i3⟩, hbx, hby⟩ := HBW.out _ HB3.out
      have HB1 := Lib.hid h1'
      have HBX := Lib.hid hbx
      have HBY := Lib.hid hby
      obtain ⟨e0, e1, f0, f1⟩ := cellsOf hbx
      obtain ⟨e2, e3, f2, f3⟩ := cellsOf hby
      clear h1' hbx hby c0 c1 d0 d1 HB3
      go_wp2
      have hst := storedTwo (s := 0) (u := .slice none 0 0) (s' := 0) (v := .slice none 0 0) HBX.out HBY.out (by omega) HB1.out (by omega) (by omega) (Kd.R_nil _ _ _ _ _) (Kd.R_nil _ _ _ _ _)
      refine bodyPost_ret (results_list (rs := [.cell 4 26, .cell 5 26, .tmp 6]) rfl (by simp) (.cell (w.heap.size + 1 + 1) 26 #[.int .i64 0, .slice none 0 0] (0, 0) _ rfl hst.1 Try.underlying26 rfl sizeW (.cell (w.heap.size + 1 + 1 + 1) 26 #[.int .i64 0, .slice none 0 0] (0, 0) _ rfl hst.2.1 Try.underlying26 rfl sizeW (.tmp .nil)))) rfl ?_
      exact ⟨_, _, rfl, hst.2.2.1, hst.2.2.2.1, hst.2.2.2.2⟩
    | true =>
      rw [hx] at h HJ
      rw [if_pos ⟨rfl, rfl⟩] at h
      by_cases hz0 : a1_0 = 0
      · subst hz0
        rw [if_pos rfl] at h
        obtain ⟨rfl, h2⟩ := Prod.mk.inj h
        obtain ⟨rfl, h3⟩ := Prod.mk.inj h2
        obtain ⟨rfl, h4⟩ := Prod.mk.inj h3
        obtain ⟨rfl, rfl⟩ := Prod.mk.inj h4
        clear h h2 h3 h4 hw hx hr0_1 hc0_1 hr1_1 hc1_1
        go_enter Try.func17, Try.ntmps17
        go_wp2_with fail
        refine (HI.out _ (HBW.out _ (Below.refl _ _)).1).mono ?_
        rintro e w1 ⟨rfl, hb⟩
        obtain ⟨h1', c0, c1, d0, d1, ⟨hs, i0, i1, i2, i3⟩, hbx, hby⟩ := HBW.out _ (hb.mono (by simp))
        have HB1 := Lib.hid h1'
        have HB2 := Lib.hid (hb.mono (B' := w.heap.size + 4) (by simp))
        clear hb h1' hbx hby
        go_wp2_with fail
        refine (HJ.out _ HB1.out).mono ?_
        rintro e w2 ⟨rfl, hb⟩
        have HB3 := Lib.hid (HB2.out.trans (hb.mono hs))
        clear hb HB1 HB2 c0 c1 d0 d1 hs i0 i1 i2 i3
        obtain ⟨h1', c0, c1, d0, d1, ⟨hs, i0, i1, i2, i3⟩, hbx, hby⟩ := HBW.out _ HB3.out
        have HB1 := Lib.hid h1'
        have HBX := Lib.hid hbx
        have HBY := Lib.hid hby
        obtain ⟨e0, e1, f0, f1⟩ := cellsOf hbx
        obtain ⟨e2, e3, f2, f3⟩ := cellsOf hby
        clear h1' hbx hby c0 c1 HB3
        go_wp2
        have hst := storedTwo (s := 0) (u := .slice none 0 0) (s' := 0) (v := .slice none 0 0) HBX.out HBY.out (by omega) HB1.out (by omega) (by omega) (Kd.R_nil _ _ _ _ _) (Kd.R_nil _ _ _ _ _)
        refine bodyPost_ret (results_list (rs := [.cell 4 26, .cell 5 26, .tmp 6]) rfl (by simp) (.cell (w.heap.size + 1 + 1) 26 #[.int .i64 0, .slice none 0 0] (0, 0) _ rfl hst.1 Try.underlying26 rfl sizeW (.cell (w.heap.size + 1 + 1 + 1) 26 #[.int .i64 0, .slice none 0 0] (0, 0) _ rfl hst.2.1 Try.underlying26 rfl sizeW (.tmp .nil)))) rfl ?_
        exact ⟨_, _, rfl, hst.2.2.1, hst.2.2.2.1, hst.2.2.2.2⟩
      · rw [if_neg hz0] at h
        obtain ⟨rfl, h2⟩ := Prod.mk.inj h
        obtain ⟨rfl, h3⟩ := Prod.mk.inj h2
        obtain ⟨rfl, h4⟩ := Prod.mk.inj h3
        obtain ⟨rfl, rfl⟩ := Prod.mk.inj h4
        have b0 := (isW_eq hw).2.2
        have b1 := (isW_eq hx).2.2
        have hy0 : wv a1_0 l1_1 ≠ 0 := by
          intro e
          have := (isW_eq hx).1
          rw [e] at this
          exact hz0 this
        have hT := fun (W : World) (hb : Below w.heap.size w W) => cBig (c := c0_1) (C_at hr0_1 hb) hw
        have hU := fun (W : World) (hb : Below w.heap.size w W) => cBig (c := c1_1) (C_at hr1_1 hb) hx
        generalize wv a0_0 l0_1 = x at *
        generalize wv a1_0 l1_1 = y at *
        have q1 : (x.tdiv y).natAbs = x.natAbs / y.natAbs := Int.natAbs_tdiv x y
        have q2 : (x.tmod y).natAbs = x.natAbs % y.natAbs := Int.natAbs_tmod x y
        have hbm : bl (x.tmod y).natAbs ≤ 2400 := by rw [q2]; exact Nat.le_trans (bl_mono (Nat.mod_le _ _)) b0
        have hbd : bl (x.tdiv y).natAbs ≤ 2400 := by rw [q1]; exact Nat.le_trans (bl_mono (Nat.div_le_self _ _)) b0
        have hC := fun (W : World) (p r g g4 : Nat) (hp : Blk W p) (hr : Blk W r) (hz : Z W g x) (hz4 : Z W g4 y) (hpr : p ≠ r) => Tf.quoRem hp hr hz hz4 (by omega) (by omega) hy0 hpr
        have hF := fun (W : World) (p : Nat) (hz : Z W p (x.tdiv y)) => Mo.fromBig_yes hz hbd
        have hG := fun (W : World) (p : Nat) (hz : Z W p (x.tmod y)) => Mo.fromBig_yes hz hbm
        have HC := Lib.hid hC
        have HF := Lib.hid hF
        have HG := Lib.hid hG
        have HT := Lib.hid hT
        have HU := Lib.hid hU
        have cz : decide (a1_0 = 0) = false := decide_eq_false hz0
        have cz2 : (a1_0 == 0) = false := beq_eq_false_iff_ne.mpr hz0
        clear hC hF hG hT hU q1 q2 hbm hbd b0 b1 hy0 h h2 h3 h4 hw hx hr0_1 hc0_1 hr1_1 hc1_1
        generalize x.tdiv y = zq at *
        generalize x.tmod y = zr at *
        generalize hsq : Pm.sgn zq = sq at *
        generalize hsr : Pm.sgn zr = sr at *
        generalize hlq : L zq.natAbs = lq at *
        generalize hlr : L zr.natAbs = lr at *
        clear hsq hsr hlq hlr
        go_enter Try.func17, Try.ntmps17
        go_wp2_with fail
        refine (HI.out _ (HBW.out _ (Below.refl _ _)).1).mono ?_
        rintro e w1 ⟨rfl, hb⟩
        obtain ⟨h1', c0, c1, d0, d1, ⟨hs, i0, i1, i2, i3⟩, hbx, hby⟩ := HBW.out _ (hb.mono (by simp))
        have HB1 := Lib.hid h1'
        have HB2 := Lib.hid (hb.mono (B' := w.heap.size + 4) (by simp))
        clear hb h1' hbx hby
        go_wp2_with fail
        refine (HJ.out _ HB1.out).mono ?_
        rintro e w2 ⟨rfl, hb⟩
        have HB3 := Lib.hid (HB2.out.trans (hb.mono hs))
        clear hb HB1 HB2 c0 c1 d0 d1 hs i0 i1 i2 i3
        obtain ⟨h1', c0, c1, d0, d1, ⟨hs, i0, i1, i2, i3⟩, hbx, hby⟩ := HBW.out _ HB3.out
        have HX2 := Lib.hid (show BS _ _ _ from ⟨HB3.out, hs⟩)
        clear h1' hbx hby HB3 HI HJ
        go_upto_region 5 with fail
        go_cut [7, 8] (fun v7 v8 wc => ∃ p r : Nat, v7 = .pointer (some ⟨p, 0, none⟩) ∧ v8 = .pointer (some ⟨r, 0, none⟩) ∧ Hid (BS (w.heap.size + 4) ((((w.alloc (.cells #[.int .i64 a0_0, .slice A0_1 l0_1.length c0_1] 26)).alloc (.cells #[.int .i64 a1_0, .slice A1_1 l1_1.length c1_1] 26)).alloc (.cells #[.int .i64 0, .slice none 0 0] 26)).alloc (.cells #[.int .i64 0, .slice none 0 0] 26)) wc) ∧ Hid (Z wc p zq) ∧ Hid (Z wc r zr))
        case first =>
          clear HF HG
          go_wp2_with fail
          go_region_law (first
            | (go_simp; go_at_call 32; refine (HT.out _ (HBW.out _ (show BS _ _ _ by with_reducible repeat (first | exact HX2.out | apply BS.drew | apply BS.alloc)).1).1).mono ?_; rintro e w3 ⟨g, rfl, hz, hg, hb⟩; have HX3 := Lib.hid (BS.call (show BS _ _ _ by with_reducible repeat (first | exact HX2.out | apply BS.drew | apply BS.alloc)) hb); obtain ⟨-, x0, x1, y0, y1, ⟨hs3, j0, j1, j2, j3⟩, -, -⟩ := HBW.out w3 HX3.out.1; have HZ := Lib.hid hz; have HD3 := Lib.hid hb; clear hz hg hb HT)
            | (go_simp; go_at_call 32; refine (HU.out _ (HBW.out _ (show BS _ _ _ by with_reducible repeat (first | exact HX3.out | apply BS.drew | apply BS.alloc)).1).1).mono ?_; rintro e w4 ⟨g4, rfl, hz, hg, hb⟩; have HX4 := Lib.hid (BS.call (show BS _ _ _ by with_reducible repeat (first | exact HX3.out | apply BS.drew | apply BS.alloc)) hb); have HZ1 := Lib.hid (Z.below (show Z _ g x by with_reducible repeat (first | exact HZ.out | apply Z.drew' | apply Z.alloc')) hb); have HZ2 := Lib.hid hz; obtain ⟨-, xx0, xx1, yy0, yy1, ⟨hs4, k0, k1, k2, k3⟩, -, -⟩ := HBW.out w4 HX4.out.1; have HD4 := Lib.hid hb; clear hz hg hb HU HZ)
            | (go_simp; go_at_call 42; refine (HC.out _ _ _ _ _ (by with_reducible repeat (first | exact (Z.new _).blk | exact Blk.new1 _ _ | exact Blk.new1d _ _ | refine Blk.below ?_ HD4.out | refine Blk.below ?_ HD3.out | apply Blk.drew' | apply Blk.alloc')) (by with_reducible repeat (first | exact (Z.new _).blk | exact Blk.new1 _ _ | exact Blk.new1d _ _ | refine Blk.below ?_ HD4.out | refine Blk.below ?_ HD3.out | apply Blk.drew' | apply Blk.alloc')) (by with_reducible repeat (first | exact HZ1.out | apply Z.drew' | apply Z.alloc')) (by with_reducible repeat (first | exact HZ2.out | apply Z.drew' | apply Z.alloc')) (by have q3 := HD3.out.size; have q4 := HD4.out.size; (try simp only [alloc_size, drew_size] at q3 q4 ⊢); omega)).mono ?_; rintro e w5 ⟨rfl, hzq, hzr, w5', hg1, hg2⟩; have HX5 := Lib.hid (BS.put (BS.put (show BS _ _ _ by with_reducible repeat (first | exact HX4.out | apply BS.drew | apply BS.alloc)) hg1 (by have q2 := HX2.out.2; have q3 := HX3.out.2; have q4 := HX4.out.2; (try simp only [alloc_size, drew_size]); omega)) hg2 (by have q2 := HX2.out.2; have q3 := HX3.out.2; have q4 := HX4.out.2; (try simp only [alloc_size, drew_size]); omega)); have HZQ := Lib.hid hzq; have HZR := Lib.hid hzr; clear hzq hzr hg1 hg2))
          all_goals clear HX2 HX3 HX4 HD3 HD4 HZ1 HZ2 HC c0 c1 d0 d1 hs i0 i1 i2 i3 x0 x1 y0 y1 hs3 j0 j1 j2 j3 xx0 xx1 yy0 yy1 hs4 k0 k1 k2 k3 HBW cz cz2 hz0
          all_goals as_aux_lemma =>
            go_wp2_with fail
            go_meet
            case rel => exact ⟨_, _, rfl, rfl, HX5, HZQ, HZR⟩
        case rest =>
          clear HT HU HC HX2 c0 c1 d0 d1 hs i0 i1 i2 i3
          obtain ⟨p, r, rfl, rfl, HX5, HZQ, HZR⟩ := hcut
          have hs5 := HX5.out.2
          go_wp2_with fail
          refine (HF.out _ _ HZQ.out).mono ?_
          rintro e w6 ⟨u, rfl, hR, hb⟩
          obtain ⟨A, c, rfl⟩ := Kd.R_slice hR
          have HX6 := Lib.hid (HX5.out.call hb)
          have HZR6 := Lib.hid (HZR.out.below hb)
          have HR6 := Lib.hid hR
          clear hR hb HZQ HZR HF
          go_wp2_with fail
          refine (HG.out _ _ (Z.alloc' HZR6.out _)).mono ?_
          rintro e w8 ⟨v, rfl, hR, hb⟩
          obtain ⟨B, d, rfl⟩ := Kd.R_slice hR
          have HX8 := Lib.hid ((HX6.out.alloc _).call hb)
          obtain ⟨hRu, hRv⟩ := twoRows (w := w) HR6.out (by omega) (Ma.below_alloc w6 _) (by have := HX6.out.2; omega) hR hb
          have HRU := Lib.hid hRu
          have HRV := Lib.hid hRv
          have hc9 := (hb.block w6.heap.size (by rw [alloc_size]; exact Nat.lt_succ_self _)).trans (heap_alloc_new w6 _)
          have hn := hb.size
          rw [alloc_size] at hn
          have hs6 := HX6.out.2
          clear hR hb hRu hRv HG HZR6 HR6 HX5 HX6 hs5
          go_wp2_with fail
          have hc9' := blk_alloc hc9 (.cells #[.int .i64 sr, .slice B lr.length d] 26)
          have hc11 := heap_alloc_new w8 (.cells #[.int .i64 sr, .slice B lr.length d] 26)
          have HX9 := Lib.hid (HX8.out.alloc (.cells #[.int .i64 sr, .slice B lr.length d] 26))
          have HRU9 := Lib.hid (Kd.R_below HRU.out (Ma.below_alloc w8 (.cells #[.int .i64 sr, .slice B lr.length d] 26)))
          have HRV9 := Lib.hid (Kd.R_below HRV.out (Ma.below_alloc w8 (.cells #[.int .i64 sr, .slice B lr.length d] 26)))
          obtain ⟨h1', -, -, -, -, -, hbx, hby⟩ := HBW.out _ HX9.out.1
          have HB9 := Lib.hid h1'
          clear hc9 HX8 HRU HRV HX9 h1'
          generalize w8.alloc (.cells #[.int .i64 sr, .slice B lr.length d] 26) = W9 at *
          generalize w6.heap.size = b9 at *
          generalize w8.heap.size = b11 at *
          have x0 : W9.cell? ⟨b9, 0, none⟩ = some (.int .i64 sq) := blk_cell hc9' 0
          have x1 : W9.cell? ⟨b9, 1, none⟩ = some (.slice A lq.length c) := blk_cell hc9' 1
          have y0 : W9.cell? ⟨b11, 0, none⟩ = some (.int .i64 sr) := blk_cell hc11 0
          have y1 : W9.cell? ⟨b11, 1, none⟩ = some (.slice B lr.length d) := blk_cell hc11 1
          obtain ⟨e0, e1, f0, f1⟩ := cellsOf hbx
          obtain ⟨e2, e3, f2, f3⟩ := cellsOf hby
          have n1 : (w.heap.size + 1 + 1 = b9) = False := eq_false (by omega)
          have n2 : (b9 = w.heap.size + 1 + 1) = False := eq_false (by omega)
          have n3 : (w.heap.size + 1 + 1 = b11) = False := eq_false (by omega)
          have n4 : (b11 = w.heap.size + 1 + 1) = False := eq_false (by omega)
          have HBX := Lib.hid hbx
          have HBY := Lib.hid hby
          clear hbx hby hc9' hc11 hn hs6
          go_region
          all_goals go_wp2
          all_goals
            have hst := storedTwo (s := sq) (u := .slice A lq.length c) (s' := sr) (v := .slice B lr.length d) HBX.out HBY.out (by omega) HB9.out (by omega) (by omega) HRU9.out HRV9.out
            refine bodyPost_ret (results_list (rs := [.cell 4 26, .cell 5 26, .tmp 6]) rfl (by simp) (.cell (w.heap.size + 1 + 1) 26 #[.int .i64 sq, .slice A lq.length c] (0, 0) _ rfl hst.1 Try.underlying26 rfl sizeW (.cell (w.heap.size + 1 + 1 + 1) 26 #[.int .i64 sr, .slice B lr.length d] (0, 0) _ rfl hst.2.1 Try.underlying26 rfl sizeW (.tmp .nil)))) rfl ?_
            exact ⟨_, _, rfl, Kd.R_drew hst.2.2.1, Kd.R_drew hst.2.2.2.1, hst.2.2.2.2.drew⟩
end Go.Proofs.Ythanlckjfghnkaa.PW
end
