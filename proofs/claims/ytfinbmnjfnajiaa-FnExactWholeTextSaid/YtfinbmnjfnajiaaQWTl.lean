/- Lemmas of the claim: Mf, Mg, Mh, Ta, Tb, Tc, Te, Td, Mi, Mj, Tf, Ts, XkWholeText, PLExactWholeTextx33, Tt. -/
import Derived.RegionTactic
import Derived.ChangeAlike
import Derived.Laws.CopyOwn
import Derived.Deep.OwnRows
import Derived.Test.YtfinbmnjfnajiaaQWTk
import Derived.Test.YtfinbmnjfnajiaaQWTg
import Derived.Deep.LoopGhost
import Derived.Test.YtfinbmnjfnajiaaQWTa
import Derived.Deep.CutBlock
import Derived.Deep.CutRange
import Derived.Deep.DeepCutAuto
import Derived.Test.YtfinbmnjfnajiaaQWTf
section
set_option linter.unusedVariables false
set_option linter.unusedSimpArgs false
namespace Go.Proofs.Ytfinbmnjfnajiaa.Mf
open Go.RowKit Go.Proofs.YtfinbmnjfnajiaaW.PrintWords Go.Proofs.Ytfinbmnjfnajiaa.PW Go.Proofs.Ytfinbmnjfnajiaa.Pc Go.Proofs.Ytfinbmnjfnajiaa.Ma Go.Proofs.Ytfinbmnjfnajiaa.Mb Go.Proofs.Ytfinbmnjfnajiaa.Mc Go.Proofs.Ytfinbmnjfnajiaa.Md Go.Proofs.Ytfinbmnjfnajiaa.Me Dg
theorem D_or (a b i : Nat) : (D (a ||| b)).getD i 0 = (((a / 4294967296 ^ i % 4294967296) ||| (b / 4294967296 ^ i % 4294967296) : Nat) : Int) := by
  rw [D_getD]
  congr 1
  rw [show (4294967296 : Nat) = 2 ^ 32 from rfl, ← Nat.pow_mul]
  have h1 : (a ||| b) / 2 ^ (32 * i) = a / 2 ^ (32 * i) ||| b / 2 ^ (32 * i) := by
    rw [← Nat.shiftRight_eq_div_pow, ← Nat.shiftRight_eq_div_pow, ← Nat.shiftRight_eq_div_pow, Nat.shiftRight_or_distrib]
  rw [h1, Nat.or_mod_two_pow]
theorem or_list {a b : Nat} {ys : List Int} (hl : ys.length = max (D a).length (D b).length) (h : ∀ j, j < ys.length → ys.getD j 0 = bits .or .u32 ((D a).getD j 0) ((D b).getD j 0)) : Dig 4294967296 ys ∧ val 4294967296 ys = ((a ||| b : Nat) : Int) := by
  have hb : ∀ j, bits .or .u32 ((D a).getD j 0) ((D b).getD j 0) = (((a ||| b) / 4294967296 ^ j % 4294967296 : Nat) : Int) := by
    intro j
    rw [← D_getD, D_or, D_getD, D_getD]
    exact (bits_nat .u32 32 (by decide) Po.wraps_u32 _ _ (Nat.mod_lt _ (by decide)) (Nat.mod_lt _ (by decide))).2
  have h2 : ∀ j, j < ys.length → ys.getD j 0 = (((a ||| b) / 4294967296 ^ j % 4294967296 : Nat) : Int) := fun j hj => by rw [h j hj, hb]
  constructor
  · exact dig_of_getD fun j hj => by rw [h2 j hj]; have := Nat.mod_lt ((a ||| b) / 4294967296 ^ j) (show 0 < 4294967296 by decide); omega
  · rw [val_digits (by decide) ys (a ||| b) h2]
    congr 1
    apply Nat.mod_eq_of_lt
    have e : (4294967296 : Nat) = 2 ^ 32 := rfl
    rw [e, ← Nat.pow_mul]
    apply Nat.or_lt_two_pow
    · have := D_bl a
      have h3 := lt_bl a
      have := Nat.pow_le_pow_right (n := 2) (by decide) (show bl a ≤ 32 * ys.length by omega)
      omega
    · have := D_bl b
      have h3 := lt_bl b
      have := Nat.pow_le_pow_right (n := 2) (by decide) (show bl b ≤ 32 * ys.length by omega)
      omega
theorem made_list (n : Nat) : (madeCells #[Value.int .u32 0] n).toList = (List.replicate n (0 : Int)).map (Value.int .u32) := by
  apply List.ext_getElem
  · simp [madeCells]
  · intro i h1 h2
    simp [madeCells, Nat.mod_one]
theorem splice_list {a : List Int} {n : Nat} (h : a.length ≤ n) : splice ((List.replicate n (0 : Int)).map (Value.int .u32)) 0 (a.map (Value.int .u32)) = (a ++ List.replicate (n - a.length) 0).map (Value.int .u32) := by
  unfold splice
  simp
theorem append_zeros_getD (a : List Int) (k j : Nat) : (a ++ List.replicate k (0 : Int)).getD j 0 = a.getD j 0 := by
  rcases Nat.lt_or_ge j a.length with h | h
  · simp [List.getD, List.getElem?_append_left h]
  · rw [getD_ge h]
    simp [List.getD, List.getElem?_append_right h, List.getElem?_replicate]
    split <;> rfl
def OrTo (a b : Nat) (m i : Nat) (ys : List Int) : Prop := ys.length = m ∧ (∀ j, j < i → ys.getD j 0 = bits .or .u32 ((D a).getD j 0) ((D b).getD j 0)) ∧ (∀ j, i ≤ j → ys.getD j 0 = (D a).getD j 0)
theorem OrTo.step {a b m i : Nat} {ys : List Int} (h : OrTo a b m i ys) (hi : i < m) : OrTo a b m (i + 1) (ys.set i (bits .or .u32 ((D a).getD i 0) ((D b).getD i 0))) := by
  obtain ⟨h1, h2, h3⟩ := h
  refine ⟨by simpa using h1, fun j hj => ?_, fun j hj => ?_⟩
  · by_cases e : j = i
    · subst e; rw [Dg.getD_set_eq (by omega)]
    · rw [Dg.getD_set_ne (by omega)]; exact h2 j (by omega)
  · rw [Dg.getD_set_ne (by omega)]; exact h3 j (by omega)
theorem or_zero (a j : Nat) : bits .or .u32 ((D a).getD j 0) 0 = (D a).getD j 0 := by
  have := (bits_nat .u32 32 (by decide) Po.wraps_u32 (a / 4294967296 ^ j % 4294967296) 0 (Nat.mod_lt _ (by decide)) (by decide)).2
  rw [D_getD]
  simpa using this
theorem OrTo.done {a b m : Nat} {ys : List Int} (h : OrTo a b m (D b).length ys) (hm : m = max (D a).length (D b).length) : Dig 4294967296 ys ∧ val 4294967296 ys = ((a ||| b : Nat) : Int) := by
  obtain ⟨h1, h2, h3⟩ := h
  refine or_list (by omega) fun j hj => ?_
  by_cases hjb : j < (D b).length
  · exact h2 j hjb
  · rw [h3 j (by omega), getD_ge (l := D b) (by omega), or_zero]
theorem nums_set {ys : List Int} {i : Nat} {x : Int} : (ys.map (Value.int .u32)).toArray.setIfInBounds i (.int .u32 x) = ((ys.set i x).map (Value.int .u32)).toArray := by
  simp [List.map_set]
theorem sizeU : (Try.prog.info? 110).map (·.size) = some 1 := by kernel_rfl
set_option maxHeartbeats 1600000 in
set_option maxRecDepth 100000 in
theorem orr {w : World} {p q s : Nat} {x y : Int} (hp : Blk w p) (hx : Z w q x) (hy : Z w s y) (h1 : bl x.natAbs ≤ 536870912) (h2 : bl y.natAbs ≤ 536870912) :
    Calls Try.prog 73 #[.pointer (some ⟨p, 0, none⟩), .pointer (some ⟨q, 0, none⟩), .pointer (some ⟨s, 0, none⟩)] w (Puts w p ((x.natAbs ||| y.natAbs : Nat) : Int)) := by
  obtain ⟨A, c, k0, k1, hm, hq⟩ := Z.open hx
  obtain ⟨B, d, j0, j1, hn, hs⟩ := Z.open hy
  have hl1 := D_len x.natAbs
  have hl2 := D_len y.natAbs
  generalize hla : (D x.natAbs).length = la at *
  generalize hlb : (D y.natAbs).length = lb at *
  have HLA := Lib.hid hla
  have HLB := Lib.hid hlb
  have HM := Lib.hid hm
  have HNN := Lib.hid hn
  have HPB := Lib.hid hp
  have hla2 : la ≤ 536870912 := by omega
  have hlb2 : lb ≤ 536870912 := by omega
  clear hla hlb
  clear hp hx hy hm hn h1 h2 hl1 hl2
  have hfin : ∀ (m : Nat) (ys : List Int) (wr : World), m = max la lb → OrTo x.natAbs y.natAbs m lb ys → wr.heap[w.heap.size]? = some (.cells (ys.map (Value.int .u32)).toArray 110 (0, 0)) → Below w.heap.size w wr →
      Calls Try.prog 72 #[.pointer (some ⟨p, 0, none⟩), .bool false, .slice (some ⟨w.heap.size, 0, none⟩) m m] wr (Puts w p ((x.natAbs ||| y.natAbs : Nat) : Int)) := by
    intro m ys wr hm hor hblk hb
    have hl := hor.1
    rw [← HLB.out] at hor
    obtain ⟨hd, hv⟩ := hor.done (by rw [HLA.out, HLB.out]; exact hm)
    have hr := Mg.row (xs := ys) hblk (by simp) (by omega)
    have := put (neg := false) (HPB.out.below hb) hr hd (by omega)
    rw [hl] at this
    refine this.mono fun e w' h => ?_
    rw [hv] at h
    exact Puts.below hb h
  have HF := Lib.hid hfin
  clear hfin
  by_cases hlt : la < lb
  · have hmk := run_make_row' (P := Try.prog) 61 110 (.int .u32 0) 4 Try.underlying61 infoU rfl .i64 .i64 lb (by omega) (by omega)
    have hlb : lb = max la lb := by omega
    have Hlb := Lib.hid hlb
    clear hlb
    have hlm : lb ≤ lb := Nat.le_refl _
    have HBEL := Lib.hid (show Below w.heap.size w ((w.alloc (.cells (madeCells #[Value.int .u32 0] lb) 110)).drew) from (below_alloc w _).drew)
    have HBLK := Lib.hid (show ((w.alloc (.cells (madeCells #[Value.int .u32 0] lb) 110)).drew).heap[w.heap.size]? = some (.cells ((List.replicate lb (0 : Int)).map (Value.int .u32)).toArray 110 (0, 0)) by
      rw [show ((List.replicate lb (0 : Int)).map (Value.int .u32)).toArray = madeCells #[Value.int .u32 0] lb by rw [← made_list]]
      exact heap_alloc_new w _)
    have HLEN := Lib.hid (show ((D x.natAbs).map (Value.int .u32)).length = Nat.min la lb by rw [List.length_map, HLA.out]; exact (Nat.min_eq_left (by omega)).symm)
    have HFIT := Lib.hid (show 0 + ((D x.natAbs).map (Value.int .u32)).length ≤ ((List.replicate lb (0 : Int)).map (Value.int .u32)).length by rw [List.length_map, List.length_map, List.length_replicate, HLA.out]; omega)
    have HONE := Lib.hid (show ∀ v ∈ (D x.natAbs).map (Value.int .u32), v.oneCell' = true by intro v hv; obtain ⟨u, _, rfl⟩ := List.mem_map.1 hv; rfl)
    have HPOS := Lib.hid (show 0 < ((D x.natAbs).map (Value.int .u32)).length → ∃ ad, A = some ad ∧ ∀ j v, ((D x.natAbs).map (Value.int .u32))[j]? = some v → ((w.alloc (.cells (madeCells #[Value.int .u32 0] lb) 110)).drew).cell? (ad.add j) = some v by
      intro hpos
      rw [List.length_map] at hpos
      have hC := HM.out.1
      obtain ⟨ad, had, _⟩ := Kd.at_int hC 0 (by omega) (by omega)
      subst had
      refine ⟨ad, rfl, fun j v hj => ?_⟩
      rw [List.getElem?_map] at hj
      have hjl : j < (D x.natAbs).length := by
        rcases Nat.lt_or_ge j (D x.natAbs).length with h | h
        · exact h
        · rw [List.getElem?_eq_none h] at hj; cases hj
      obtain ⟨ad', had', hc'⟩ := Kd.at_int hC (j : Int) (by omega) (by omega)
      cases had'
      rw [Int.toNat_natCast, rdN] at hc'
      rw [List.getElem?_eq_getElem hjl, Option.map_some] at hj
      cases hj
      rw [getD_lt hjl] at hc'
      exact (HBEL.out.cell (World.block_lt_of_cell? w _ hc')).trans hc')
    go_enter Try.func73, Try.ntmps73
    go_wp2
    go_region
    clear hmk
    go_wp2_with ((with_reducible refine gate_builtin (b := .copy) (xs := #[.tmp 22, .tmp 26]) rfl ?_); refine wpList_copy_splice rfl (.tmp 22) (.tmp 26) 61 61 rfl 110 Try.underlying61 sizeU (some ⟨w.heap.size, 0, none⟩) A lb lb la c rfl rfl w.heap.size 0 ((List.replicate lb (0 : Int)).map (Value.int .u32)) 110 HBLK.out ((D x.natAbs).map (Value.int .u32)) HLEN.out (fun h_ => ⟨rfl, HPOS.out h_⟩) HFIT.out HONE.out w.heap.size w HBEL.out (Nat.le_refl _) ?_; clear HBLK HLEN HPOS HFIT HONE HBEL; intro w3 hblk hbel; have HB3 := Lib.hid hblk.out; have HBL := Lib.hid hbel; have j1' := (hbel.cell (p := ⟨s, 1, none⟩) hs).trans j1; clear hblk hbel)
    go_loopw [33] (fun i wr => ∃ (k : Nat) (ys : List Int), i = .int .i64 k ∧ k ≤ lb ∧ Hid (OrTo x.natAbs y.natAbs lb k ys) ∧ Hid (wr.heap[w.heap.size]? = some (.cells (ys.map (Value.int .u32)).toArray 110 (0, 0))) ∧ Hid (Below w.heap.size w wr)) (fun i _ => lb - (intOf i).toNat)
    case atStart =>
      have HMA := HM.out
      refine ⟨0, D x.natAbs ++ List.replicate (lb - (D x.natAbs).length) 0, rfl, by omega, Lib.hid ⟨by rw [List.length_append, List.length_replicate, HLA.out]; omega, fun j hj => by omega, fun j _ => append_zeros_getD _ _ _⟩, Lib.hid ?_, HBL⟩
      have := HB3.out
      rw [splice_list (by rw [HLA.out]; omega)] at this
      exact this
    case round =>
      obtain ⟨k, ys, rfl, hk, HO, HW, HBR⟩ := hrel
      by_cases hkb : k < lb
      · obtain ⟨ad, hBad, hcell⟩ := Kd.at_int HNN.out.1 (k : Int) (by omega) (by rw [HLB.out]; omega)
        subst hBad
        rw [Int.toNat_natCast, rdN] at hcell
        have hcell' := (HBR.out.cell (World.block_lt_of_cell? w _ hcell)).trans hcell
        clear hcell
        have hyl := HO.out.1
        have hrow := blk_cell HW.out k
        have hfro := blk_frozen HW.out k
        have hyk : (ys.map (Value.int .u32)).toArray[k]? = some (.int .u32 ((D x.natAbs).getD k 0)) := by
          rw [List.getElem?_toArray, List.getElem?_map, List.getElem?_eq_getElem (by omega), ← HO.out.2.2 k (Nat.le_refl _), getD_lt (by omega)]; rfl
        rw [hyk] at hrow
        have HS := Lib.hid (HO.out.step (by omega))
        have hnext : ((wr.setCell ⟨w.heap.size, k, none⟩ (.int .u32 (bits .or .u32 ((D x.natAbs).getD k 0) ((D y.natAbs).getD k 0)))).heap[w.heap.size]?) = some (.cells ((ys.set k (bits .or .u32 ((D x.natAbs).getD k 0) ((D y.natAbs).getD k 0))).map (Value.int .u32)).toArray 110 (0, 0)) := by
          rw [blk_set HW.out k, nums_set]
        have HNX := Lib.hid hnext
        have HBN := Lib.hid (HBR.out.setCell (p := ⟨w.heap.size, k, none⟩) (Nat.le_refl _) (.int .u32 (bits .or .u32 ((D x.natAbs).getD k 0) ((D y.natAbs).getD k 0))))
        clear hnext hyk hyl HO HW HBR
        generalize (D x.natAbs).getD k 0 = u at *
        generalize (D y.natAbs).getD k 0 = v at *
        go_wp2
        go_roundw
        case rel => exact ⟨k + 1, _, by go_num, by omega, HS, HNX, HBN⟩
        case measure => simp [intOf]; omega
      · obtain rfl : lb = k := by omega
        have HC := Lib.hid (HF.out lb ys wr Hlb.out HO.out HW.out HBR.out)
        clear HO HW HBR
        go_wp2_with (go_at_call 72; refine HC.out.mono ?_; rintro e w2 ⟨rfl, hz2, hg2⟩; have HE := Lib.hid (show Puts w p ((x.natAbs ||| y.natAbs : Nat) : Int) _ w2 from ⟨rfl, hz2, hg2⟩); clear hz2 hg2)
        go_ret
        exact HE.out
  · have hmk := run_make_row' (P := Try.prog) 61 110 (.int .u32 0) 4 Try.underlying61 infoU rfl .i64 .i64 la (by omega) (by omega)
    have hla : la = max la lb := by omega
    have Hla := Lib.hid hla
    clear hla
    have hlm : lb ≤ la := by omega
    have HBEL := Lib.hid (show Below w.heap.size w ((w.alloc (.cells (madeCells #[Value.int .u32 0] la) 110)).drew) from (below_alloc w _).drew)
    have HBLK := Lib.hid (show ((w.alloc (.cells (madeCells #[Value.int .u32 0] la) 110)).drew).heap[w.heap.size]? = some (.cells ((List.replicate la (0 : Int)).map (Value.int .u32)).toArray 110 (0, 0)) by
      rw [show ((List.replicate la (0 : Int)).map (Value.int .u32)).toArray = madeCells #[Value.int .u32 0] la by rw [← made_list]]
      exact heap_alloc_new w _)
    have HLEN := Lib.hid (show ((D x.natAbs).map (Value.int .u32)).length = Nat.min la la by rw [List.length_map, HLA.out]; exact (Nat.min_eq_left (by omega)).symm)
    have HFIT := Lib.hid (show 0 + ((D x.natAbs).map (Value.int .u32)).length ≤ ((List.replicate la (0 : Int)).map (Value.int .u32)).length by rw [List.length_map, List.length_map, List.length_replicate, HLA.out]; omega)
    have HONE := Lib.hid (show ∀ v ∈ (D x.natAbs).map (Value.int .u32), v.oneCell' = true by intro v hv; obtain ⟨u, _, rfl⟩ := List.mem_map.1 hv; rfl)
    have HPOS := Lib.hid (show 0 < ((D x.natAbs).map (Value.int .u32)).length → ∃ ad, A = some ad ∧ ∀ j v, ((D x.natAbs).map (Value.int .u32))[j]? = some v → ((w.alloc (.cells (madeCells #[Value.int .u32 0] la) 110)).drew).cell? (ad.add j) = some v by
      intro hpos
      rw [List.length_map] at hpos
      have hC := HM.out.1
      obtain ⟨ad, had, _⟩ := Kd.at_int hC 0 (by omega) (by omega)
      subst had
      refine ⟨ad, rfl, fun j v hj => ?_⟩
      rw [List.getElem?_map] at hj
      have hjl : j < (D x.natAbs).length := by
        rcases Nat.lt_or_ge j (D x.natAbs).length with h | h
        · exact h
        · rw [List.getElem?_eq_none h] at hj; cases hj
      obtain ⟨ad', had', hc'⟩ := Kd.at_int hC (j : Int) (by omega) (by omega)
      cases had'
      rw [Int.toNat_natCast, rdN] at hc'
      rw [List.getElem?_eq_getElem hjl, Option.map_some] at hj
      cases hj
      rw [getD_lt hjl] at hc'
      exact (HBEL.out.cell (World.block_lt_of_cell? w _ hc')).trans hc')
    go_enter Try.func73, Try.ntmps73
    go_wp2
    go_region
    clear hmk
    go_wp2_with ((with_reducible refine gate_builtin (b := .copy) (xs := #[.tmp 22, .tmp 26]) rfl ?_); refine wpList_copy_splice rfl (.tmp 22) (.tmp 26) 61 61 rfl 110 Try.underlying61 sizeU (some ⟨w.heap.size, 0, none⟩) A la la la c rfl rfl w.heap.size 0 ((List.replicate la (0 : Int)).map (Value.int .u32)) 110 HBLK.out ((D x.natAbs).map (Value.int .u32)) HLEN.out (fun h_ => ⟨rfl, HPOS.out h_⟩) HFIT.out HONE.out w.heap.size w HBEL.out (Nat.le_refl _) ?_; clear HBLK HLEN HPOS HFIT HONE HBEL; intro w3 hblk hbel; have HB3 := Lib.hid hblk.out; have HBL := Lib.hid hbel; have j1' := (hbel.cell (p := ⟨s, 1, none⟩) hs).trans j1; clear hblk hbel)
    go_loopw [33] (fun i wr => ∃ (k : Nat) (ys : List Int), i = .int .i64 k ∧ k ≤ lb ∧ Hid (OrTo x.natAbs y.natAbs la k ys) ∧ Hid (wr.heap[w.heap.size]? = some (.cells (ys.map (Value.int .u32)).toArray 110 (0, 0))) ∧ Hid (Below w.heap.size w wr)) (fun i _ => lb - (intOf i).toNat)
    case atStart =>
      have HMA := HM.out
      refine ⟨0, D x.natAbs ++ List.replicate (la - (D x.natAbs).length) 0, rfl, by omega, Lib.hid ⟨by rw [List.length_append, List.length_replicate, HLA.out]; omega, fun j hj => by omega, fun j _ => append_zeros_getD _ _ _⟩, Lib.hid ?_, HBL⟩
      have := HB3.out
      rw [splice_list (by rw [HLA.out]; omega)] at this
      exact this
    case round =>
      obtain ⟨k, ys, rfl, hk, HO, HW, HBR⟩ := hrel
      by_cases hkb : k < lb
      · obtain ⟨ad, hBad, hcell⟩ := Kd.at_int HNN.out.1 (k : Int) (by omega) (by rw [HLB.out]; omega)
        subst hBad
        rw [Int.toNat_natCast, rdN] at hcell
        have hcell' := (HBR.out.cell (World.block_lt_of_cell? w _ hcell)).trans hcell
        clear hcell
        have hyl := HO.out.1
        have hrow := blk_cell HW.out k
        have hfro := blk_frozen HW.out k
        have hyk : (ys.map (Value.int .u32)).toArray[k]? = some (.int .u32 ((D x.natAbs).getD k 0)) := by
          rw [List.getElem?_toArray, List.getElem?_map, List.getElem?_eq_getElem (by omega), ← HO.out.2.2 k (Nat.le_refl _), getD_lt (by omega)]; rfl
        rw [hyk] at hrow
        have HS := Lib.hid (HO.out.step (by omega))
        have hnext : ((wr.setCell ⟨w.heap.size, k, none⟩ (.int .u32 (bits .or .u32 ((D x.natAbs).getD k 0) ((D y.natAbs).getD k 0)))).heap[w.heap.size]?) = some (.cells ((ys.set k (bits .or .u32 ((D x.natAbs).getD k 0) ((D y.natAbs).getD k 0))).map (Value.int .u32)).toArray 110 (0, 0)) := by
          rw [blk_set HW.out k, nums_set]
        have HNX := Lib.hid hnext
        have HBN := Lib.hid (HBR.out.setCell (p := ⟨w.heap.size, k, none⟩) (Nat.le_refl _) (.int .u32 (bits .or .u32 ((D x.natAbs).getD k 0) ((D y.natAbs).getD k 0))))
        clear hnext hyk hyl HO HW HBR
        generalize (D x.natAbs).getD k 0 = u at *
        generalize (D y.natAbs).getD k 0 = v at *
        go_wp2
        go_roundw
        case rel => exact ⟨k + 1, _, by go_num, by omega, HS, HNX, HBN⟩
        case measure => simp [intOf]; omega
      · obtain rfl : lb = k := by omega
        have HC := Lib.hid (HF.out la ys wr Hla.out HO.out HW.out HBR.out)
        clear HO HW HBR
        go_wp2_with (go_at_call 72; refine HC.out.mono ?_; rintro e w2 ⟨rfl, hz2, hg2⟩; have HE := Lib.hid (show Puts w p ((x.natAbs ||| y.natAbs : Nat) : Int) _ w2 from ⟨rfl, hz2, hg2⟩); clear hz2 hg2)
        go_ret
        exact HE.out
end Go.Proofs.Ytfinbmnjfnajiaa.Mf
end
section
set_option linter.unusedVariables false
set_option linter.unusedSimpArgs false
namespace Go.Proofs.Ytfinbmnjfnajiaa.Mg
open Go.RowKit Go.Proofs.YtfinbmnjfnajiaaW.PrintWords Go.Proofs.Ytfinbmnjfnajiaa.PW Go.Proofs.Ytfinbmnjfnajiaa.Pc Go.Proofs.Ytfinbmnjfnajiaa.Ma Go.Proofs.Ytfinbmnjfnajiaa.Mb Go.Proofs.Ytfinbmnjfnajiaa.Mc Go.Proofs.Ytfinbmnjfnajiaa.Md Go.Proofs.Ytfinbmnjfnajiaa.Me Go.Proofs.Ytfinbmnjfnajiaa.Mf Dg
def hiv (l : List Int) (k : Nat) : Int := val 16777216 (l.drop k)
theorem hiv_nonneg {l : List Int} (h : Dig 16777216 l) (k : Nat) : 0 ≤ hiv l k := val_nonneg (h.drop k)
theorem hiv_blN {l : List Int} (h : Dig 16777216 l) (N : Nat) (hl : 24 * l.length ≤ N) (k : Nat) : bl (hiv l k).natAbs ≤ N := by
  apply bl_le
  have h1 := val_lt (by decide) (h.drop k)
  have h0 := hiv_nonneg h k
  have h2 : (16777216 : Nat) ^ (l.drop k).length ≤ 2 ^ N := by
    rw [show (16777216 : Nat) = 2 ^ 24 from rfl, ← Nat.pow_mul]
    exact Nat.pow_le_pow_right (by decide) (by rw [List.length_drop]; omega)
  have h3 : ((16777216 : Nat) : Int) ^ (l.drop k).length = ((16777216 ^ (l.drop k).length : Nat) : Int) := by simp
  unfold hiv at *
  rw [h3] at h1
  exact Nat.lt_of_lt_of_le (by omega) h2
theorem hiv_bl {l : List Int} (h : Dig 16777216 l) (hl : l.length ≤ 100) (k : Nat) : bl (hiv l k).natAbs ≤ 2400 := hiv_blN h 2400 (by omega) k
theorem hiv_step {l : List Int} (h : Dig 16777216 l) (k : Nat) : hiv l k = ((((hiv l (k + 1)) * 2 ^ 24).natAbs ||| (l.getD k 0).natAbs : Nat) : Int) := by
  have h0 := hiv_nonneg h (k + 1)
  have hd := h.all0 (by decide) k
  have e : hiv l k = l.getD k 0 + 16777216 * hiv l (k + 1) := val_drop' l k
  obtain ⟨a, ha⟩ := Int.eq_ofNat_of_zero_le h0
  obtain ⟨d, hd'⟩ := Int.eq_ofNat_of_zero_le hd.1
  have hdl : d < 16777216 := by have := hd.2; omega
  rw [e, ha, hd']
  have e2 : ((a : Int) * 2 ^ 24).natAbs = 2 ^ 24 * a := by
    have : ((a : Int) * 2 ^ 24) = ((2 ^ 24 * a : Nat) : Int) := by simp [Int.mul_comm]
    rw [this, Int.natAbs_natCast]
  rw [e2, Int.natAbs_natCast, ← Nat.two_pow_add_eq_or_of_lt (i := 24) hdl a]
  omega
theorem below_grownB {w w1 w2 : World} {g : Nat} (h : Below g w w1) (hg : g ≤ w1.heap.size) (k : w1.grownBy w2 (some g)) : Below g w w2 :=
  h.trans ⟨k.os, k.tape, k.output, k.size, fun i hi => k.block i (by omega) (by simp; omega)⟩
theorem below_then0 {w w1 w2 : World} (h : Below w.heap.size w w1) (k : Below w.heap.size w1 w2) : Below w.heap.size w w2 := h.trans k
set_option maxHeartbeats 1600000 in
theorem toBig {w : World} {s : Int} {A : Option Addr} {c : Nat} {l : List Int} (hC : (Kd.int .i64).C w A l.length l) (hd : Dig 16777216 l) (hl : l.length ≤ 100) :
    Calls Try.prog 37 #[.agg #[.int .i64 s, .slice A l.length c]] w (News w (if s < 0 then -(val 16777216 l) else val 16777216 l)) := by
  obtain ⟨W1, hW1⟩ : ∃ W1, W1 = w.alloc (.cells #[.int .i64 s, .slice A l.length c] 26) := ⟨_, rfl⟩
  obtain ⟨W2, hW2⟩ : ∃ W2, W2 = W1.alloc (.cells #[.bool false, .slice none 0 0] 63) := ⟨_, rfl⟩
  have hs1 : W1.heap.size = w.heap.size + 1 := by rw [hW1]; simp
  have hb1 : Below w.heap.size w W1 := by rw [hW1]; exact below_alloc w _
  have hb2 : Below W1.heap.size W1 W2 := by rw [hW2]; exact below_alloc W1 _
  have hb02 : Below w.heap.size w W2 := below_then hb1 hb2
  have hz2 : Z W2 W1.heap.size 0 := by rw [hW2]; exact Z.new W1
  have hbox : W1.heap[w.heap.size]? = some (.cells #[.int .i64 s, .slice A l.length c] 26 (0, 0)) := by rw [hW1]; exact heap_alloc_new w _
  have hbox2 := (hb2.block w.heap.size (by omega)).trans hbox
  -- what a round knows
  have hcell : ∀ wr : World, Below (w.heap.size + 1) W2 wr → (wr.cell? ⟨w.heap.size, 0, none⟩ = some (.int .i64 s) ∧ wr.cell? ⟨w.heap.size, 1, none⟩ = some (.slice A l.length c)) := by
    intro wr h
    have := (h.block w.heap.size (by omega)).trans hbox2
    exact ⟨blk_cell this 0, blk_cell this 1⟩
  have hlimb : ∀ (wr : World) (k : Nat), k < l.length → Below (w.heap.size + 1) W2 wr → ∃ ad, A = some ad ∧ wr.cell? (ad.add k) = some (.int .i64 (l.getD k 0)) := by
    intro wr k hk h
    obtain ⟨ad, hA, hc⟩ := Kd.at_int hC (k : Int) (by omega) (by omega)
    rw [Int.toNat_natCast, rdN] at hc
    have hlt := World.block_lt_of_cell? w _ hc
    exact ⟨ad, hA, ((h.mono (by omega)).cell hlt).trans ((hb02.cell hlt).trans hc)⟩
  have hW : W2 = (w.alloc (.cells #[.int .i64 s, .slice A l.length c] 26)).alloc (.cells #[.bool false, .slice none 0 0] 63) := by rw [hW2, hW1]
  rw [hs1] at hz2
  have HW := Lib.hid hW
  have HC := Lib.hid hcell
  have HL := Lib.hid hlimb
  have H02 := Lib.hid hb02
  have HZ2 := Lib.hid hz2
  have HD := Lib.hid hd
  have HBX := Lib.hid hbox2
  clear hW hW1 hW2 hcell hlimb hb02 hz2 hbox hbox2 hb1 hb2 hs1 hC hd
  clear W1
  -- one round: shifted, a limb put in
  have hsh : ∀ (wr : World) (k : Nat), Z wr (w.heap.size + 1) (hiv l (k + 1)) → Calls Try.prog 62 #[.pointer (some ⟨w.heap.size + 1, 0, none⟩), .pointer (some ⟨w.heap.size + 1, 0, none⟩), .int .u64 24] wr (Puts wr (w.heap.size + 1) (hiv l (k + 1) * 2 ^ 24)) := by
    intro wr k hz
    have := hiv_bl HD.out hl (k + 1)
    exact lsh (n := 24) hz.blk hz (by omega) (by omega)
  have hor : ∀ (wr : World) (k g : Nat), Z wr (w.heap.size + 1) (hiv l (k + 1) * 2 ^ 24) → Z wr g (l.getD k 0) → Calls Try.prog 73 #[.pointer (some ⟨w.heap.size + 1, 0, none⟩), .pointer (some ⟨w.heap.size + 1, 0, none⟩), .pointer (some ⟨g, 0, none⟩)] wr (Puts wr (w.heap.size + 1) (hiv l k)) := by
    intro wr k g hz hg
    have h1 := hiv_bl HD.out hl (k + 1)
    have hx := HD.out.all0 (by decide) k
    have h3 : bl (hiv l (k + 1) * 2 ^ 24).natAbs ≤ 536870912 := by
      rw [Int.natAbs_mul, show ((2 : Int) ^ 24).natAbs = 2 ^ 24 from rfl]
      have := bl_shift_le (hiv l (k + 1)).natAbs 24
      omega
    have h4 : bl (l.getD k 0).natAbs ≤ 536870912 := Nat.le_trans (bl_le (k := 24) (by omega)) (by omega)
    rw [hiv_step HD.out k]
    exact orr hz.blk hz hg h3 h4
  have hnew : ∀ (wr : World) (k : Nat), Calls Try.prog 74 #[.int .i64 (l.getD k 0)] wr (News wr (l.getD k 0)) := by
    intro wr k
    have hx := HD.out.all0 (by decide) k
    exact newInt (by omega) (by omega)
  have hfin : ∀ wr, Z wr (w.heap.size + 1) (hiv l 0) → Calls Try.prog 75 #[.pointer (some ⟨w.heap.size + 1, 0, none⟩), .pointer (some ⟨w.heap.size + 1, 0, none⟩)] wr (Puts wr (w.heap.size + 1) (-(hiv l 0))) := by
    intro wr hz
    have := hiv_bl HD.out hl 0
    exact neg hz.blk hz (by omega)
  have hout : ∀ (wr : World) (z : Int), Below (w.heap.size + 1) W2 wr → Z wr (w.heap.size + 1) z → News w z (.returned (.pointer (some ⟨w.heap.size + 1, 0, none⟩))) wr := by
    intro wr z hb hz
    exact ⟨_, rfl, hz, by omega, below_then0 H02.out (hb.mono (by omega))⟩
  have HSH := Lib.hid hsh
  have HOR := Lib.hid hor
  have HNW := Lib.hid hnew
  have HFN := Lib.hid hfin
  have HOUT := Lib.hid hout
  clear hsh hor hnew hfin hout
  have hv0 : hiv l 0 = val 16777216 l := by unfold hiv; rw [List.drop_zero]
  rw [← hv0]
  clear hv0
  by_cases hneg : s < 0
  all_goals
    go_enter Try.func37, Try.ntmps37
    go_wp2_with fail
    go_loopw [4] (fun i wr => ∃ k : Nat, i = .int .i64 ((k : Int) - 1) ∧ k ≤ l.length ∧ Hid (Z wr (w.heap.size + 1) (hiv l k)) ∧ Hid (Below (w.heap.size + 1) W2 wr)) (fun i _ => (intOf i + 1).toNat)
    case atStart =>
      refine ⟨l.length, rfl, Nat.le_refl _, Lib.hid ?_, Lib.hid ?_⟩
      · rw [← HW.out, show hiv l l.length = 0 by unfold hiv; rw [List.drop_length]; rfl]; exact HZ2.out
      · rw [← HW.out]; exact Below.refl _ _
    case round =>
      obtain ⟨k, rfl, hk, HZ, HB⟩ := hrel
      cases k with
      | zero =>
        obtain ⟨c0, c1⟩ := HC.out wr HB.out
        have HO := Lib.hid (HOUT.out wr _ HB.out HZ.out)
        have HN := Lib.hid (HFN.out wr HZ.out)
        have hlt : ((0 : Nat) : Int) - 1 = -1 := rfl
        rw [hlt]
        clear hlt
        go_wp2_with (first | (go_at_call 75; refine HN.out.mono ?_; rintro e w2 ⟨rfl, hz2, hg2⟩; have HO := Lib.hid (HOUT.out w2 _ (below_grownB HB.out (Nat.le_of_lt HZ.out.lt) hg2) hz2); clear hz2 hg2))
        go_ret
        exact HO.out
      | succ k =>
        have hlt : ((k + 1 : Nat) : Int) - 1 = (k : Int) := by omega
        rw [hlt]
        clear hlt
        go_wp2_with fail
        refine (HSH.out wr k HZ.out).mono ?_
        rintro e w2 ⟨rfl, hz2, hg2⟩
        have hb2 := below_grownB HB.out (Nat.le_of_lt HZ.out.lt) hg2
        obtain ⟨c0, c1⟩ := HC.out w2 hb2
        obtain ⟨ad, hA, hl2⟩ := HL.out w2 k (by omega) hb2
        subst hA
        have HZ3 := Lib.hid hz2
        have HB3 := Lib.hid hb2
        clear hz2 hg2 hb2 HZ HB
        go_wp2_with fail
        refine (HNW.out w2 k).mono ?_
        rintro e w3 ⟨g, rfl, hz3, hg3, hb3⟩
        have HZ4 := Lib.hid (HZ3.out.below hb3)
        have HB4 := Lib.hid (HB3.out.trans (hb3.mono (by have := HZ3.out.lt; omega)))
        have HZ5 := Lib.hid hz3
        clear hz3 hg3 hb3 HZ3 HB3 c0 c1 hl2
        go_wp2_with fail
        refine (HOR.out w3 k g HZ4.out HZ5.out).mono ?_
        rintro e w4 ⟨rfl, hz6, hg6⟩
        have HZ6 := Lib.hid hz6
        have HB6 := Lib.hid (below_grownB HB4.out (Nat.le_of_lt HZ4.out.lt) hg6)
        clear hz6 hg6
        go_wp2
        go_roundw
        case rel => exact ⟨k, rfl, by omega, HZ6, HB6⟩
        case measure => (simp [intOf]) <;> omega
end Go.Proofs.Ytfinbmnjfnajiaa.Mg
end
section
set_option linter.unusedVariables false
set_option linter.unusedSimpArgs false
namespace Go.Proofs.Ytfinbmnjfnajiaa.Mh
open Go.RowKit Go.Proofs.YtfinbmnjfnajiaaW.PrintWords Go.Proofs.Ytfinbmnjfnajiaa.PW Go.Proofs.Ytfinbmnjfnajiaa.Pc Go.Proofs.Ytfinbmnjfnajiaa.Pb Go.Proofs.Ytfinbmnjfnajiaa.Pw Go.Proofs.Ytfinbmnjfnajiaa.Ma Go.Proofs.Ytfinbmnjfnajiaa.Mb Go.Proofs.Ytfinbmnjfnajiaa.Mc Go.Proofs.Ytfinbmnjfnajiaa.Md Go.Proofs.Ytfinbmnjfnajiaa.Me Go.Proofs.Ytfinbmnjfnajiaa.Mg Dg
theorem cIs {w : World} {s : Int} {A : Option Addr} {c : Nat} {l : List Int} (hC : (Kd.int .i64).C w A l.length l) (hc : l.length ≤ c) (hm : l.length ≤ 9223372036854775807) :
    Calls Try.prog 35 #[.agg #[.int .i64 s, .slice A l.length c]] w fun e w' => e = .returned (.bool (isW s l)) ∧ Below w.heap.size w w' := by
  obtain ⟨k, hk⟩ := (iIs s l hm).rounds
  exact impl_IsWhole.calls k s A c l _ w hC hc hk
theorem cBig {w : World} {s : Int} {A : Option Addr} {c : Nat} {l : List Int} (hC : (Kd.int .i64).C w A l.length l) (h : isW s l = true) :
    Calls Try.prog 37 #[.agg #[.int .i64 s, .slice A l.length c]] w (News w (wv s l)) := by
  obtain ⟨hd, hl, _, _⟩ := isW_spec h
  exact toBig hC hd hl
theorem C_at {w w1 : World} {A : Option Addr} {l : List Int} (hC : (Kd.int .i64).C w A l.length l) (hb : Below w.heap.size w w1) : (Kd.int .i64).C w1 A l.length l := Kd.C_below hC hb
end Go.Proofs.Ytfinbmnjfnajiaa.Mh
end
section
set_option linter.unusedVariables false
set_option linter.unusedSimpArgs false
namespace Go.Proofs.Ytfinbmnjfnajiaa.Ta
open Go.RowKit Go.Proofs.YtfinbmnjfnajiaaW.PrintWords Go.Proofs.Ytfinbmnjfnajiaa.PW Go.Proofs.Ytfinbmnjfnajiaa.Pc Go.Proofs.Ytfinbmnjfnajiaa.Ma Go.Proofs.Ytfinbmnjfnajiaa.Mb Go.Proofs.Ytfinbmnjfnajiaa.Mc Go.Proofs.Ytfinbmnjfnajiaa.Md Go.Proofs.Ytfinbmnjfnajiaa.Me Go.Proofs.Ytfinbmnjfnajiaa.Mf Go.Proofs.Ytfinbmnjfnajiaa.Dy Dg
set_option maxHeartbeats 800000 in
theorem trimH {w : World} {A : Option Addr} {c : Nat} {xs : List Int} (h : Mg w A c xs) (hd : Dig 4294967296 xs) (hl : xs.length ≤ 1099511627776) :
    Calls Try.prog 95 #[.slice A xs.length c] w (fun e w' => ∃ m, e = .returned (.slice A m c) ∧ (∃ n, w' = w.drewN n) ∧ m ≤ xs.length ∧ D (val 4294967296 xs).toNat = xs.take m) := by
  have HM := Lib.hid h
  have hfin : ∀ m : Nat, m ≤ xs.length → (∀ j, m ≤ j → xs.getD j 0 = 0) → (m = 0 ∨ xs.getD (m - 1) 0 ≠ 0) → D (val 4294967296 xs).toNat = xs.take m := fun m h1 h2 h3 => Dy.trimmed hd h1 h2 h3
  have HF := Lib.hid hfin
  have hcell : ∀ (k n : Nat), k < xs.length → ∃ ad, A = some ad ∧ (w.drewN n).cell? (ad.add k) = some (.int .u32 (xs.getD k 0)) := by
    intro k n hk
    obtain ⟨ad, hA, hc⟩ := Kd.at_int h.1 (k : Int) (by omega) (by omega)
    rw [Int.toNat_natCast, rdN] at hc
    exact ⟨ad, hA, hc⟩
  have HC := Lib.hid hcell
  have hle := h.2
  generalize hn : xs.length = N at *
  have HN := Lib.hid hn
  clear h hfin hcell hd hn
  go_enter Try.func95, Try.ntmps95
  go_wp2_with fail
  go_loopg [0] N (fun k v wr => ∃ n : Nat, v = .slice A k c ∧ k ≤ N ∧ Hid (∀ j, k ≤ j → xs.getD j 0 = 0) ∧ wr = w.drewN n)
  case atStart => exact ⟨0, rfl, Nat.le_refl _, Lib.hid (fun j hj => getD_ge (by have := HN.out; omega)), rfl⟩
  case round =>
    obtain ⟨n, rfl, hk, HZ, rfl⟩ := hrel
    cases gk with
    | zero =>
      have HE := Lib.hid (HF.out 0 (Nat.zero_le _) HZ.out (.inl rfl))
      clear HZ
      go_wp2
      go_ret
      exact ⟨0, rfl, ⟨_, rfl⟩, by omega, HE.out⟩
    | succ m =>
      obtain ⟨ad, hA, hc⟩ := HC.out m n (by have := HN.out; omega)
      subst hA
      have hw : IntKind.i64.wrap (((m + 1 : Nat) : Int) - 1) = (m : Int) := by rw [IntKind.wrap_i64]; omega
      by_cases h0 : xs.getD m 0 = 0
      · have HZ2 := Lib.hid (show ∀ j, m ≤ j → xs.getD j 0 = 0 from fun j hj => by
          rcases Nat.eq_or_lt_of_le hj with rfl | h
          · exact h0
          · exact HZ.out j h)
        rw [h0] at hc
        clear h0 HZ
        obtain ⟨i010, hi010, _, hsz10, _⟩ := info_parts infoU
        have hcut := cut_to (P := Try.prog) 61 110 .i64 Try.underlying61 hi010 (some ad) (m + 1) c (m : Int) (by omega) (by omega) (by omega)
        clear hi010 hsz10
        go_wp2
        go_roundg m
        case measure => omega
        case rel => exact ⟨_, rfl, by omega, HZ2, rfl⟩
      · have HE := Lib.hid (HF.out (m + 1) hk HZ.out (.inr h0))
        have h0b : (xs.getD m 0 == 0) = false := by simpa using h0
        clear h0 HZ
        generalize xs.getD m 0 = x at *
        go_wp2
        go_ret
        exact ⟨m + 1, rfl, ⟨_, rfl⟩, hk, HE.out⟩
def Row (w : World) (g : Nat) (ys : List Int) : Prop := w.heap[g]? = some (.cells (ys.map (Value.int .u32)).toArray 110 (0, 0))
theorem Row.cell {w : World} {g : Nat} {ys : List Int} (h : Row w g ys) {k : Nat} (hk : k < ys.length) : w.cell? ⟨g, k, none⟩ = some (.int .u32 (ys.getD k 0)) ∧ w.frozen? ⟨g, k, none⟩ = false := by
  have h1 := blk_cell h k
  refine ⟨?_, blk_frozen h k⟩
  rw [h1, List.getElem?_toArray, List.getElem?_map, List.getElem?_eq_getElem hk, getD_lt hk]; rfl
theorem Row.set {w : World} {g : Nat} {ys : List Int} (h : Row w g ys) (k : Nat) (x : Int) : Row (w.setCell ⟨g, k, none⟩ (.int .u32 x)) g (ys.set k x) := by
  unfold Row
  rw [blk_set h k, nums_set]
theorem Row.lt {w : World} {g : Nat} {ys : List Int} (h : Row w g ys) : g < w.heap.size := (Array.getElem?_eq_some_iff.1 h).1
theorem Row.mg {w : World} {g : Nat} {ys : List Int} (h : Row w g ys) (hl : ys.length ≤ 9223372036854775807) : Mg w (some ⟨g, 0, none⟩) ys.length ys := Mg.row h (by simp) hl
theorem Row.grown {w w1 : World} {g : Nat} {ys : List Int} (h : Row w g ys) {q : Option Nat} (hg : w.grownBy w1 q) (hne : some g ≠ q) : Row w1 g ys := (hg.block g h.lt hne).trans h
theorem Row.below {w w1 : World} {g B : Nat} {ys : List Int} (h : Row w g ys) (hb : Below B w w1) (hlt : g < B) : Row w1 g ys := (hb.block g hlt).trans h
end Go.Proofs.Ytfinbmnjfnajiaa.Ta
end
section
set_option linter.unusedVariables false
set_option linter.unusedSimpArgs false
namespace Go.Proofs.Ytfinbmnjfnajiaa.Tb
open Go.RowKit Go.Proofs.YtfinbmnjfnajiaaW.PrintWords Go.Proofs.Ytfinbmnjfnajiaa.PW Go.Proofs.Ytfinbmnjfnajiaa.Pc Go.Proofs.Ytfinbmnjfnajiaa.Ma Go.Proofs.Ytfinbmnjfnajiaa.Mb Go.Proofs.Ytfinbmnjfnajiaa.Mc Go.Proofs.Ytfinbmnjfnajiaa.Md Go.Proofs.Ytfinbmnjfnajiaa.Me Go.Proofs.Ytfinbmnjfnajiaa.Mf Go.Proofs.Ytfinbmnjfnajiaa.Dy Go.Proofs.Ytfinbmnjfnajiaa.Ta Dg
def Own (w : World) (g : Nat) (xs : List Int) : Prop := ∃ cur : Array Value, w.heap[g]? = some (.cells cur 110 (0, 0)) ∧ ∀ k, k < xs.length → cur[k]? = some (.int .u32 (xs.getD k 0))
section
variable {w w1 : World} {g : Nat} {xs : List Int}
theorem Own.cell (h : Own w g xs) {k : Nat} (hk : k < xs.length) : w.cell? ⟨g, k, none⟩ = some (.int .u32 (xs.getD k 0)) ∧ w.frozen? ⟨g, k, none⟩ = false := by
  obtain ⟨cur, hb, hc⟩ := h
  exact ⟨(blk_cell hb k).trans (hc k hk), blk_frozen hb k⟩
theorem Own.lt (h : Own w g xs) : g < w.heap.size := by
  obtain ⟨cur, hb, hc⟩ := h
  exact (Array.getElem?_eq_some_iff.1 hb).1
theorem Own.set (h : Own w g xs) {k : Nat} (hk : k < xs.length) (x : Int) : Own (w.setCell ⟨g, k, none⟩ (.int .u32 x)) g (xs.set k x) := by
  obtain ⟨cur, hb, hc⟩ := h
  refine ⟨_, blk_set hb k _, fun j hj => ?_⟩
  rw [List.length_set] at hj
  have hs : k < cur.size := by
    have := hc k hk
    exact (Array.getElem?_eq_some_iff.1 this).1
  by_cases e : j = k
  · subst e
    rw [Array.getElem?_setIfInBounds_self_of_lt hs, Dg.getD_set_eq hk]
  · rw [Array.getElem?_setIfInBounds_ne (by omega), Dg.getD_set_ne (by omega)]
    exact hc j hj
theorem Own.far (h : Own w g xs) {p : Addr} (hp : g ≠ p.block) (u : Value) : Own (w.setCell p u) g xs := by
  obtain ⟨cur, hb, hc⟩ := h
  exact ⟨cur, blk_far hb hp u, hc⟩
theorem Own.grown (h : Own w g xs) {q : Option Nat} (hg : w.grownBy w1 q) (hne : some g ≠ q) : Own w1 g xs := by
  obtain ⟨cur, hb, hc⟩ := h
  exact ⟨cur, (hg.block g (Array.getElem?_eq_some_iff.1 hb).1 hne).trans hb, hc⟩
theorem Own.below (h : Own w g xs) {B : Nat} (hb : Below B w w1) (hlt : g < B) : Own w1 g xs := by
  obtain ⟨cur, hc, h2⟩ := h
  exact ⟨cur, (hb.block g hlt).trans hc, h2⟩
theorem Own.kept (h : Own w g xs) (hb : Below w.heap.size w w1) : Own w1 g xs := h.below hb h.lt
theorem Own.take (h : Own w g xs) (m : Nat) : Own w g (xs.take m) := by
  obtain ⟨cur, hb, hc⟩ := h
  refine ⟨cur, hb, fun k hk => ?_⟩
  rw [List.length_take] at hk
  rw [hc k (by omega), getD_lt (l := xs) (by omega), getD_lt (l := xs.take m) (by rw [List.length_take]; omega), List.getElem_take]
theorem Own.mg (h : Own w g xs) {c : Nat} (hl : xs.length ≤ 9223372036854775807) (hc0 : xs.length ≤ c) : Mg w (some ⟨g, 0, none⟩) c xs := by
  obtain ⟨cur, hb, hc⟩ := h
  refine ⟨⟨rfl, hl, fun _ => ⟨_, rfl, fun j p hp => ⟨[.int .u32 p], rfl, rfl, fun i u hu => ?_⟩⟩⟩, hc0⟩
  have hi : i = 0 := by
    have := (List.getElem?_eq_some_iff.1 hu).1
    simp at this
    exact this
  subst hi
  simp at hu
  subst hu
  have hsz : (Kd.int .u32).sz = 1 := rfl
  have hj : j < xs.length := (List.getElem?_eq_some_iff.1 hp).1
  rw [hsz, Nat.mul_one, Nat.add_zero, add_plain, blk_cell hb, hc j hj, getD_lt hj]
  rw [List.getElem?_eq_getElem hj] at hp
  injection hp with hp
  rw [hp]
theorem Own.of_row (h : Row w g xs) : Own w g xs := by
  refine ⟨_, h, fun k hk => ?_⟩
  rw [List.getElem?_toArray, List.getElem?_map, List.getElem?_eq_getElem hk, getD_lt hk]; rfl
end
end Go.Proofs.Ytfinbmnjfnajiaa.Tb
end
section
set_option linter.unusedVariables false
set_option linter.unusedSimpArgs false
namespace Go.Proofs.Ytfinbmnjfnajiaa.Tc
open Go.RowKit Go.Proofs.YtfinbmnjfnajiaaW.PrintWords Go.Proofs.Ytfinbmnjfnajiaa.PW Go.Proofs.Ytfinbmnjfnajiaa.Pc Go.Proofs.Ytfinbmnjfnajiaa.Ma Go.Proofs.Ytfinbmnjfnajiaa.Mb Go.Proofs.Ytfinbmnjfnajiaa.Mc Go.Proofs.Ytfinbmnjfnajiaa.Md Go.Proofs.Ytfinbmnjfnajiaa.Me Go.Proofs.Ytfinbmnjfnajiaa.Mf Go.Proofs.Ytfinbmnjfnajiaa.Dy Go.Proofs.Ytfinbmnjfnajiaa.Ta Go.Proofs.Ytfinbmnjfnajiaa.Tb Dg Go.Proofs.Ytfinbmnjfnajiaa.Dv Go.Proofs.Ytfinbmnjfnajiaa.Dw Go.Proofs.Ytfinbmnjfnajiaa.Dx Go.Proofs.Ytfinbmnjfnajiaa.Du
def GivesTwo (w : World) (q r : Nat) (e : Ending) (w' : World) : Prop :=
  ∃ A c B d, e = .returned (.tuple #[.slice A (D q).length c, .slice B (D r).length d]) ∧ Mg w' A c (D q) ∧ Mg w' B d (D r) ∧ Below w.heap.size w w'
theorem D_small {b : Nat} (h0 : b ≠ 0) (h1 : b < 4294967296) : D b = [(b : Int)] := by
  refine (D_eq (l := [(b : Int)]) (Dig.cons (by omega) (by show (b : Int) < 4294967296; omega) Dig.nil) (by intro _ h; simp at h; omega) ?_).symm
  simp [val_cons, val_nil]
theorem or64 {r d : Int} (r0 : 0 ≤ r) (r1 : r < 4294967296) (d0 : 0 ≤ d) (d1 : d < 4294967296) : bits .or .u64 (r * 4294967296) d = r * 4294967296 + d := by
  have := Po.or_high (x := d) (y := r) d0 d1 r0 r1
  obtain ⟨a, rfl⟩ := Int.eq_ofNat_of_zero_le d0
  obtain ⟨b, rfl⟩ := Int.eq_ofNat_of_zero_le r0
  have e2 : (b : Int) * 4294967296 = ((b * 4294967296 : Nat) : Int) := by simp
  have h1 : a < 2 ^ 64 := by omega
  have h2 : b * 4294967296 < 2 ^ 64 := by omega
  rw [e2, (bits_nat .u64 64 (by decide) Po.wraps_u64 _ _ h1 h2).2] at this
  rw [e2, (bits_nat .u64 64 (by decide) Po.wraps_u64 _ _ h2 h1).2, Nat.or_comm, this]
  omega
set_option maxHeartbeats 800000 in
set_option maxRecDepth 100000 in
theorem divSmall {w : World} {A B : Option Addr} {c d a b : Nat} (ha : Mg w A c (D a)) (hb : Mg w B d (D b)) (h1 : bl a ≤ 268435456) (h2 : bl b ≤ 268435456) (h : a < b) :
    Calls Try.prog 71 #[.slice A (D a).length c, .slice B (D b).length d] w (GivesTwo w (a / b) (a % b)) := by
  rw [Nat.div_eq_of_lt h, Nat.mod_eq_of_lt h]
  have hC := cCmp ha hb (by omega) (by omega)
  rw [show Pm.sgn ((a : Int) - b) = -1 by unfold Pm.sgn; rw [if_pos (by omega)]] at hC
  have hL := fun (W : World) (hbl : Below w.heap.size w W) => (cClone (ha.below hbl) (by omega)).mono fun e w' h => GivesMg.of hbl h
  have HC := Lib.hid hC
  have HL := Lib.hid hL
  clear hC hL ha hb h1 h2 h
  have hD0 : (D 0).length = 0 := by rw [D_zero]; rfl
  have HD0 := Lib.hid hD0
  clear hD0
  generalize (D b).length = lb at *
  go_enter Try.func71, Try.ntmps71
  go_wp2_with (first | (go_at_call 107; refine HC.out.mono ?_; rintro e w1 ⟨rfl, n, rfl⟩; have HL1 := Lib.hid (HL.out (w.drewN n) (below_drawn n)); clear HC) | (go_at_call 108; refine HL1.out.mono ?_; rintro e w2 ⟨A2, c2, rfl, hm2, hb2⟩; have HE := Lib.hid (show GivesTwo w 0 a (.returned (.tuple #[.slice none 0 0, .slice A2 (D a).length c2])) w2 from ⟨none, 0, A2, c2, by rw [HD0.out], by rw [D_zero]; exact Mg.nil _, hm2, hb2⟩); clear hm2 hb2))
  go_ret2
  exact HE.out
theorem GivesTwo.of {w w1 w2 : World} {q r : Nat} {A B : Option Addr} {c d : Nat} (h1 : Mg w1 A c (D q)) (hb : Below w1.heap.size w1 w2) (h2 : Mg w2 B d (D r)) (hw : Below w.heap.size w w2) :
    GivesTwo w q r (.returned (.tuple #[.slice A (D q).length c, .slice B (D r).length d])) w2 := ⟨A, c, B, d, rfl, h1.below hb, h2, hw⟩
end Go.Proofs.Ytfinbmnjfnajiaa.Tc
end
section
namespace Go.Proofs.Ytfinbmnjfnajiaa.Te
end Go.Proofs.Ytfinbmnjfnajiaa.Te
end
section
namespace Go.Proofs.Ytfinbmnjfnajiaa.Td
end Go.Proofs.Ytfinbmnjfnajiaa.Td
end
section
set_option linter.unusedVariables false
set_option linter.unusedSimpArgs false
namespace Go.Proofs.Ytfinbmnjfnajiaa.Mi
open Go.RowKit Go.Proofs.YtfinbmnjfnajiaaW.PrintWords Go.Proofs.Ytfinbmnjfnajiaa.PW Go.Proofs.Ytfinbmnjfnajiaa.Pc Go.Proofs.Ytfinbmnjfnajiaa.Ma Go.Proofs.Ytfinbmnjfnajiaa.Mb Go.Proofs.Ytfinbmnjfnajiaa.Mc Go.Proofs.Ytfinbmnjfnajiaa.Md Go.Proofs.Ytfinbmnjfnajiaa.Me Dg
open Pm (sgn)
set_option maxHeartbeats 800000 in
theorem cmp {w : World} {p q : Nat} {x y : Int} (hx : Z w p x) (hy : Z w q y) (h1 : bl x.natAbs ≤ 1073741823) (h2 : bl y.natAbs ≤ 1073741823) :
    Calls Try.prog 88 #[.pointer (some ⟨p, 0, none⟩), .pointer (some ⟨q, 0, none⟩)] w (Tells w (.int .i64 (sgn (x - y)))) := by
  obtain ⟨A, c, k0, k1, hm, hp⟩ := Z.open hx
  obtain ⟨B, d, j0, j1, hn, hq⟩ := Z.open hy
  have hC := fun (W : World) (hb : Below w.heap.size w W) => cCmp (hm.below hb) (hn.below hb) (by omega) (by omega)
  have hD := fun (W : World) (hb : Below w.heap.size w W) => cCmp (hn.below hb) (hm.below hb) (by omega) (by omega)
  by_cases hxn : x < 0 <;> by_cases hyn : y < 0
  · have e : sgn ((y.natAbs : Int) - x.natAbs) = sgn (x - y) := by congr 1; omega
    rw [e] at hD
    rw [show decide (x < 0) = true by simpa using hxn] at k0
    rw [show decide (y < 0) = true by simpa using hyn] at j0
    have HD := Lib.hid hD
    clear hC hD e hxn hyn h1 h2 hm hn hx hy
    go_enter Try.func88, Try.ntmps88
    go_wp2
    go_quiet ((go_at_call 107; exact Calls.quiet_of (HD.out _ (below_drawn _))))
    go_wp2
    go_ret
    exact ⟨rfl, _, rfl⟩
  · have e : sgn (x - y) = -1 := by unfold sgn; rw [if_pos (by omega)]
    rw [e]
    rw [show decide (x < 0) = true by simpa using hxn] at k0
    rw [show decide (y < 0) = false by simpa using hyn] at j0
    clear hC hD e hxn hyn h1 h2 hm hn hx hy
    go_enter Try.func88, Try.ntmps88
    go_wp2
    go_ret
    exact ⟨rfl, 0, rfl⟩
  · have e : sgn (x - y) = 1 := by unfold sgn; rw [if_neg (by omega), if_neg (by omega)]
    rw [e]
    rw [show decide (x < 0) = false by simpa using hxn] at k0
    rw [show decide (y < 0) = true by simpa using hyn] at j0
    clear hC hD e hxn hyn h1 h2 hm hn hx hy
    go_enter Try.func88, Try.ntmps88
    go_wp2
    go_ret
    exact ⟨rfl, 0, rfl⟩
  · have e : sgn ((x.natAbs : Int) - y.natAbs) = sgn (x - y) := by congr 1; omega
    rw [e] at hC
    rw [show decide (x < 0) = false by simpa using hxn] at k0
    rw [show decide (y < 0) = false by simpa using hyn] at j0
    have HC := Lib.hid hC
    clear hC hD e hxn hyn h1 h2 hm hn hx hy
    go_enter Try.func88, Try.ntmps88
    go_wp2
    go_quiet ((go_at_call 107; exact Calls.quiet_of (HC.out _ (below_drawn _))))
    go_wp2
    go_ret
    exact ⟨rfl, _, rfl⟩
def sv (n : Bool) (m : Nat) : Int := if n = true then -(m : Int) else m
theorem sv_abs (z : Int) : sv (decide (z < 0)) z.natAbs = z := natAbs_if z
set_option maxHeartbeats 1600000 in
theorem plus {w : World} {p q : Nat} {x : Int} {neg : Bool} {B : Option Addr} {d m : Nat} (hp : Blk w p) (hx : Z w q x) (hn : Mg w B d (D m)) (h1 : bl x.natAbs ≤ 536870912) (h2 : bl m ≤ 536870912) :
    Calls Try.prog 117 #[.pointer (some ⟨p, 0, none⟩), .pointer (some ⟨q, 0, none⟩), .bool neg, .slice B (D m).length d] w (Puts w p (x + sv neg m)) := by
  obtain ⟨A, c, k0, k1, hm, hq⟩ := Z.open hx
  have hadd := bl_add_le x.natAbs m
  have hA := fun (W : World) (hb : Below w.heap.size w W) => (cAdd (hm.below hb) (hn.below hb) (by omega) (by omega)).mono fun e w' h => GivesMg.of hb h
  have hC := fun (W : World) (hb : Below w.heap.size w W) => cCmp (hm.below hb) (hn.below hb) (by omega) (by omega)
  by_cases hs : decide (x < 0) = neg
  · -- one sign
    have e : (if neg = true then -((x.natAbs + m : Nat) : Int) else ((x.natAbs + m : Nat) : Int)) = x + sv neg m := by
      rw [← sv_abs x, hs]; unfold sv
      cases neg <;> simp <;> omega
    have hP := fun (w1 : World) (A' : Option Addr) (c' : Nat) h1 h2 => put_of (w1 := w1) (A := A') (c := c') (neg := neg) (n := x.natAbs + m) hp h1 h2 (by omega)
    rw [e] at hP
    rw [hs] at k0
    have HP := Lib.hid hP
    have HA := Lib.hid hA
    clear hA hC hP e hs hadd h1 h2 hm hn hx hp
    cases neg
    all_goals
      go_enter Try.func117, Try.ntmps117
      go_wp2_with fail
      refine (HA.out _ (Below.refl _ _)).mono ?_
      rintro e w1 ⟨A', c', rfl, hm', hb'⟩
      have HPM := Lib.hid (HP.out w1 A' c' hb' hm')
      clear hm' hb'
      go_wp2_with fail
      refine HPM.out.mono ?_
      rintro e w2 ⟨rfl, hz2, hg2⟩
      have HE := Lib.hid (show Puts w p _ _ w2 from ⟨rfl, hz2, hg2⟩)
      clear hz2 hg2
      go_wp2
      go_ret
      exact HE.out
  · have hneq : neg = !decide (x < 0) := by cases neg <;> cases h : decide (x < 0) <;> simp_all
    by_cases hge : m ≤ x.natAbs
    · have hS := fun (W : World) (hb : Below w.heap.size w W) => (cSub (hm.below hb) (hn.below hb) (by omega) hge).mono fun e w' h => GivesMg.of hb h
      have hmo := bl_mono (Nat.sub_le x.natAbs m)
      have e : (if decide (x < 0) = true then -((x.natAbs - m : Nat) : Int) else ((x.natAbs - m : Nat) : Int)) = x + sv neg m := by
        rw [hneq]; unfold sv
        by_cases h : x < 0 <;> simp [h] <;> omega
      have hP := fun (w1 : World) (A' : Option Addr) (c' : Nat) h1 h2 => put_of (w1 := w1) (A := A') (c := c') (neg := decide (x < 0)) (n := x.natAbs - m) hp h1 h2 (by omega)
      rw [e] at hP
      have es : sgn ((x.natAbs : Int) - m) = sgn ((x.natAbs - m : Nat) : Int) := by congr 1; omega
      have es0 : 0 ≤ sgn ((x.natAbs : Int) - m) := by unfold sgn; split <;> (try split) <;> omega
      have HP := Lib.hid hP
      have HS := Lib.hid hS
      have HC := Lib.hid hC
      clear hA hC hP hS e hs hadd h1 h2 hm hn hx hp es hmo hge
      generalize sgn ((x.natAbs : Int) - m) = sg at *
      rw [hneq] at *
      clear hneq
      generalize decide (x < 0) = b at *
      cases b
      all_goals
        go_enter Try.func117, Try.ntmps117
        go_wp2_with fail
        refine (HC.out _ (Below.refl _ _)).mono ?_
        rintro e w1 ⟨rfl, n, rfl⟩
        go_wp2_with fail
        go_region_with (first | (go_at_call 113; refine (HS.out _ (by first | exact below_drawn _ | exact (below_drawn _).drew)).mono ?_; rintro e w1 ⟨A', c', rfl, hm', hb'⟩; have HPM := Lib.hid (HP.out w1 A' c' hb' hm'); have k0' := (hb'.cell (p := ⟨q, 0, none⟩) hq).trans k0; clear hm' hb') | (go_at_call 72; refine HPM.out.mono ?_; rintro e w2 ⟨rfl, hz2, hg2⟩; have HE := Lib.hid (show Puts w p _ _ w2 from ⟨rfl, hz2, hg2⟩); clear hz2 hg2))
        all_goals go_wp2
        all_goals go_ret
        all_goals exact HE.out
    · have hS := fun (W : World) (hb : Below w.heap.size w W) => (cSub (hn.below hb) (hm.below hb) (by omega) (by omega)).mono fun e w' h => GivesMg.of hb h
      have hmo := bl_mono (Nat.sub_le m x.natAbs)
      have e : (if neg = true then -((m - x.natAbs : Nat) : Int) else ((m - x.natAbs : Nat) : Int)) = x + sv neg m := by
        rw [hneq]; unfold sv
        by_cases h : x < 0 <;> simp [h] <;> omega
      have hP := fun (w1 : World) (A' : Option Addr) (c' : Nat) h1 h2 => put_of (w1 := w1) (A := A') (c := c') (neg := neg) (n := m - x.natAbs) hp h1 h2 (by omega)
      rw [e] at hP
      have es : sgn ((x.natAbs : Int) - m) = -1 := by unfold sgn; rw [if_pos (by omega)]
      rw [es] at hC
      have HP := Lib.hid hP
      have HS := Lib.hid hS
      have HC := Lib.hid hC
      clear hA hC hP hS e hs hadd h1 h2 hm hn hx hp es hmo hge
      rw [hneq] at *
      clear hneq
      generalize decide (x < 0) = b at *
      cases b
      all_goals
        go_enter Try.func117, Try.ntmps117
        go_wp2_with fail
        refine (HC.out _ (Below.refl _ _)).mono ?_
        rintro e w1 ⟨rfl, n, rfl⟩
        go_wp2_with fail
        refine (HS.out _ (below_drawn _)).mono ?_
        rintro e w1 ⟨A', c', rfl, hm', hb'⟩
        have HPM := Lib.hid (HP.out w1 A' c' hb' hm')
        clear hm' hb'
        go_wp2_with fail
        refine HPM.out.mono ?_
        rintro e w2 ⟨rfl, hz2, hg2⟩
        have HE := Lib.hid (show Puts w p _ _ w2 from ⟨rfl, hz2, hg2⟩)
        clear hz2 hg2
        go_wp2
        go_ret
        exact HE.out
end Go.Proofs.Ytfinbmnjfnajiaa.Mi
end
section
set_option linter.unusedVariables false
set_option linter.unusedSimpArgs false
namespace Go.Proofs.Ytfinbmnjfnajiaa.Mj
open Go.RowKit Go.Proofs.YtfinbmnjfnajiaaW.PrintWords Go.Proofs.Ytfinbmnjfnajiaa.PW Go.Proofs.Ytfinbmnjfnajiaa.Pc Go.Proofs.Ytfinbmnjfnajiaa.Ma Go.Proofs.Ytfinbmnjfnajiaa.Mb Go.Proofs.Ytfinbmnjfnajiaa.Mc Go.Proofs.Ytfinbmnjfnajiaa.Md Go.Proofs.Ytfinbmnjfnajiaa.Me Go.Proofs.Ytfinbmnjfnajiaa.Mi Dg
open Pm (sgn)
theorem Puts.of {w W w' : World} {p : Nat} {z : Int} {e : Ending} (hb : Below w.heap.size w W) (h : Puts W p z e w') : Puts w p z e w' := Mc.Puts.below hb h
set_option maxHeartbeats 1600000 in
theorem add {w : World} {p q s : Nat} {x y : Int} (hp : Blk w p) (hx : Z w q x) (hy : Z w s y) (h1 : bl x.natAbs ≤ 536870912) (h2 : bl y.natAbs ≤ 536870912) :
    Calls Try.prog 87 #[.pointer (some ⟨p, 0, none⟩), .pointer (some ⟨q, 0, none⟩), .pointer (some ⟨s, 0, none⟩)] w (Puts w p (x + y)) := by
  obtain ⟨B, d, j0, j1, hn, hs⟩ := Z.open hy
  have hP := fun (W : World) (hb : Below w.heap.size w W) => (plus (neg := decide (y < 0)) (hp.below hb) (hx.below hb) (hn.below hb) h1 h2).mono fun e w' h => Puts.of hb h
  rw [sv_abs] at hP
  have HP := Lib.hid hP
  clear hP hn h1 h2 hp hx hy
  generalize decide (y < 0) = b at *
  go_enter Try.func87, Try.ntmps87
  go_wp2
  go_region_with (go_at_call 117; refine (HP.out _ (by first | exact Below.refl _ _ | exact (Below.refl _ _).drew)).mono ?_; rintro e w2 ⟨rfl, hz2, hg2⟩; have HE := Lib.hid (show Puts w p (x + y) _ w2 from ⟨rfl, hz2, hg2⟩); clear hz2 hg2)
  all_goals go_wp2
  all_goals go_ret
  all_goals exact HE.out
end Go.Proofs.Ytfinbmnjfnajiaa.Mj
end
section
namespace Go.Proofs.Ytfinbmnjfnajiaa.Tf
end Go.Proofs.Ytfinbmnjfnajiaa.Tf
end
section
set_option linter.unusedVariables false
set_option linter.unusedSimpArgs false
namespace Go.Proofs.Ytfinbmnjfnajiaa.Ts
open Go.RowKit Go.Proofs.YtfinbmnjfnajiaaW.PrintWords Go.Proofs.Ytfinbmnjfnajiaa.PW Go.Proofs.Ytfinbmnjfnajiaa.Pb Go.Proofs.Ytfinbmnjfnajiaa.Pc Go.Proofs.Ytfinbmnjfnajiaa.Ma Go.Proofs.Ytfinbmnjfnajiaa.Mb Go.Proofs.Ytfinbmnjfnajiaa.Mc Go.Proofs.Ytfinbmnjfnajiaa.Md Go.Proofs.Ytfinbmnjfnajiaa.Me Go.Proofs.Ytfinbmnjfnajiaa.Mf Go.Proofs.Ytfinbmnjfnajiaa.Ta Go.Proofs.Ytfinbmnjfnajiaa.Tb Go.Proofs.Ytfinbmnjfnajiaa.Tc Go.Proofs.Ytfinbmnjfnajiaa.Tf Dg Go.Proofs.Ytfinbmnjfnajiaa.Dv Go.Proofs.Ytfinbmnjfnajiaa.Dw Go.Proofs.Ytfinbmnjfnajiaa.Dx Go.Proofs.Ytfinbmnjfnajiaa.Du
def GivesRow (w : World) (q r : Nat) (e : Ending) (w' : World) : Prop :=
  ∃ B d c, e = .returned (.tuple #[.slice (some ⟨w.heap.size, 0, none⟩) (D q).length c, .slice B (D r).length d]) ∧ Own w' w.heap.size (D q) ∧ Mg w' B d (D r) ∧ Below w.heap.size w w' ∧ (D q).length ≤ c
set_option maxHeartbeats 1600000 in
set_option maxRecDepth 100000 in
theorem divOneR {w : World} {A B : Option Addr} {c d a b : Nat} (ha : Mg w A c (D a)) (hb : Mg w B d (D b)) (h1 : bl a ≤ 268435456) (h0 : b ≠ 0) (h2 : b < 4294967296) (h : b ≤ a) :
    Calls Try.prog 71 #[.slice A (D a).length c, .slice B (D b).length d] w (GivesRow w (a / b) (a % b)) := by
  have hbl : bl b ≤ bl a := bl_mono h
  have hDb := D_small h0 h2
  have hC := cCmp ha hb (by omega) (by omega)
  have hl1 := D_len a
  have hcellA : ∀ (k : Nat) (W : World), k < (D a).length → Below w.heap.size w W → ∃ ad, A = some ad ∧ W.cell? (ad.add k) = some (.int .u32 ((D a).getD k 0)) := by
    intro k W hk hb
    obtain ⟨ad, hA, hc⟩ := Kd.at_int ha.1 (k : Int) (by omega) (by omega)
    rw [Int.toNat_natCast, rdN] at hc
    exact ⟨ad, hA, (hb.cell (World.block_lt_of_cell? w _ hc)).trans hc⟩
  have hcellB : ∃ bd, B = some bd ∧ ∀ W : World, Below w.heap.size w W → W.cell? bd = some (.int .u32 (b : Int)) := by
    obtain ⟨bd, hB, hc⟩ := Kd.at_int hb.1 (0 : Int) (by omega) (by rw [hDb]; simp)
    rw [show (0 : Int).toNat = 0 from rfl, show rd (D b) (0 : Int) = (b : Int) by rw [hDb]; rfl] at hc
    refine ⟨bd, hB, fun W hbW => ?_⟩
    have e : bd.add 0 = bd := by simp [Addr.add]
    rw [e] at hc
    exact (hbW.cell (World.block_lt_of_cell? w _ hc)).trans hc
  obtain ⟨bd, rfl, hcellB⟩ := hcellB
  have hT1 : ∀ (out : List Int) (rr : Int) (W : World), So (D a) (b : Int) 0 out rr → Row W w.heap.size out → Below w.heap.size w W → rr = ((a % b : Nat) : Int) ∧ Calls Try.prog 95 #[.slice (some ⟨w.heap.size, 0, none⟩) (D a).length (D a).length] W (fun e w' => e = .returned (.slice (some ⟨w.heap.size, 0, none⟩) (D (a / b)).length (D a).length) ∧ Own w' w.heap.size (D (a / b)) ∧ Below w.heap.size w w' ∧ (D (a / b)).length ≤ (D a).length) := by
    intro out rr W hS hR hbW
    obtain ⟨e1, e2⟩ := hS.done
    have := trimH (hR.mg (by have := hS.len; omega)) hS.dig (by have := hS.len; omega)
    rw [e1, Int.toNat_natCast, hS.len] at this
    refine ⟨e2, this.mono ?_⟩
    rintro e w' ⟨m, rfl, ⟨n, rfl⟩, hm, hD⟩
    have hlen : (D (a / b)).length = m := by rw [hD, List.length_take, hS.len]; omega
    refine ⟨by rw [hlen], ?_, below_then hbW (below_drawn n), by rw [hlen]; exact hm⟩
    rw [hD]
    exact (Own.of_row (show Row (W.drewN n) w.heap.size out from hR)).take m
  have hT2 : ∀ (W : World), Calls Try.prog 95 #[.slice (some ⟨W.heap.size, 0, none⟩) 1 1] (W.alloc (.cells #[.int .u32 ((a % b : Nat) : Int)] 110)) (GivesMg W (a % b)) := by
    intro W
    have hlt := Nat.mod_lt a (Nat.pos_of_ne_zero h0)
    have hm : Mg (W.alloc (.cells #[.int .u32 ((a % b : Nat) : Int)] 110)) (some ⟨W.heap.size, 0, none⟩) 1 [((a % b : Nat) : Int)] := Mg.row (xs := [((a % b : Nat) : Int)]) (heap_alloc_new W _) rfl (by simp)
    have := cTrim hm (Dig.cons (by omega) (by show ((a % b : Nat) : Int) < 4294967296; omega) Dig.nil) (by simp)
    rw [show (val 4294967296 [((a % b : Nat) : Int)]).toNat = a % b by rw [val_cons, val_nil, Int.mul_zero, Int.add_zero, Int.toNat_natCast]] at this
    exact this.mono fun e w' h => GivesMg.of (below_alloc W _) h
  have hstep : ∀ (t : Nat) (out : List Int) (rr : Int), So (D a) (b : Int) (t + 1) out rr → t < (D a).length → ∃ x q m : Int, bits .or .u64 (rr * 4294967296) ((D a).getD t 0) = x ∧ x.tdiv b = q ∧ x.tmod b = m ∧ So (D a) (b : Int) t (out.set t q) m ∧
      0 ≤ x ∧ x < 18446744073709551616 ∧ 0 ≤ q ∧ q < 4294967296 ∧ 0 ≤ m ∧ m < b ∧ 0 ≤ rr ∧ rr < b := by
    intro t out rr hS ht
    obtain ⟨s1, s2, s3, s4, s5⟩ := hS.step (D_dig a) (by omega) ht rfl
    have hr := hS.fr
    have hd := (D_dig a).all0 (by decide) t
    refine ⟨_, _, _, or64 hr.1 (by omega) hd.1 hd.2, Int.tdiv_eq_ediv_of_nonneg s2, Int.tmod_eq_emod_of_nonneg s2, s1, s2, s3, s4, s5, s1.fr.1, s1.fr.2, hr.1, hr.2⟩
  have hst := Lib.hid (So.start (a := D a) (b := (b : Int)) (by omega))
  have hdig : ∀ k, 0 ≤ (D a).getD k 0 ∧ (D a).getD k 0 < 4294967296 := fun k => (D_dig a).all0 (by decide) k
  rw [show (D b).length = 1 by rw [hDb]; rfl]
  rw [show (D b).length = 1 by rw [hDb]; rfl] at hC
  have hsg : Pm.sgn ((a : Int) - b) = 0 ∨ Pm.sgn ((a : Int) - b) = 1 := by unfold Pm.sgn; split <;> (try split) <;> omega
  have HC := Lib.hid hC
  have HCA := Lib.hid hcellA
  have HCB := Lib.hid hcellB
  have HT1 := Lib.hid hT1
  have HT2 := Lib.hid hT2
  have HS := Lib.hid hstep
  have HD := Lib.hid hdig
  clear hC hcellA hcellB hT1 hT2 hstep hdig ha hb hbl h hDb
  have hla : (D a).length ≤ 268435456 := by omega
  have hb0 : 0 < (b : Int) := by omega
  have hb1 : (b : Int) < 4294967296 := by omega
  generalize hbb : (b : Int) = bb at *
  have hbne : (bb == 0) = false := by simp; omega
  clear hbb hl1 h1
  have hlt := Nat.mod_lt a (Nat.pos_of_ne_zero h0)
  generalize a % b = r0 at *
  generalize a / b = q0 at *
  generalize hla0 : (D a).length = la at *
  have HLA := Lib.hid hla0
  clear hla0
  generalize Pm.sgn ((a : Int) - bb) = sg at *
  have hmk := run_make_row' (P := Try.prog) 61 110 (.int .u32 0) 4 Try.underlying61 infoU rfl .i64 .i64 la (by omega) (by omega)
  have HBEL := Lib.hid (show ∀ n : Nat, Below w.heap.size w ((w.drewN n).alloc (.cells (madeCells #[Value.int .u32 0] la) 110)) from fun n => below_then (below_drawn n) (below_alloc (w.drewN n) _))
  have HBLK := Lib.hid (show ∀ n : Nat, Row ((w.drewN n).alloc (.cells (madeCells #[Value.int .u32 0] la) 110)) w.heap.size (List.replicate la 0) from fun n => by
    unfold Row
    rw [show ((List.replicate la (0 : Int)).map (Value.int .u32)).toArray = madeCells #[Value.int .u32 0] la by rw [← made_list]]
    exact heap_alloc_new (w.drewN n) _)
  have hsg2 : ¬ sg < 0 := by omega
  clear hsg
  go_enter Try.func71, Try.ntmps71
  go_wp2_with (go_at_call 107; refine HC.out.mono ?_; rintro e w1 ⟨rfl, n, rfl⟩; clear HC)
  go_loopw [7, 8] (fun r i wr => ∃ (t : Nat) (j rr : Int) (out : List Int), r = .int .u64 rr ∧ i = .int .i64 j ∧ j + 1 = (t : Int) ∧ t ≤ la ∧ Hid (So (D a) bb t out rr) ∧ Hid (Row wr w.heap.size out) ∧ Hid (Below w.heap.size w wr)) (fun _ i _ => (intOf i + 1).toNat)
  case atStart =>
    exact ⟨la, _, _, _, rfl, rfl, by omega, by omega, hst, Lib.hid (HBLK.out n), Lib.hid (HBEL.out n)⟩
  case round =>
    clear hst HBLK HBEL
    obtain ⟨t, j, rr, out, rfl, rfl, hj, ht, HO, HW, HBR⟩ := hrel
    cases t with
    | zero =>
      obtain rfl : j = -1 := by omega
      clear hj
      obtain ⟨hrr, hc⟩ := HT1.out out rr wr HO.out HW.out HBR.out
      have HC1 := Lib.hid hc
      subst hrr
      clear hc HO HW HBR
      go_wp2_with fail
      refine HC1.out.mono ?_
      rintro e w2 ⟨rfl, hO2, hb2, hlq⟩
      have HC2 := Lib.hid (HT2.out w2)
      have HO2 := Lib.hid hO2
      have HB2 := Lib.hid hb2
      clear hO2 hb2
      go_wp2_with fail
      refine HC2.out.mono ?_
      rintro e w3 ⟨A3, c3, rfl, hm3, hb3⟩
      have HE := Lib.hid (show GivesRow w q0 r0 (.returned (.tuple #[.slice (some ⟨w.heap.size, 0, none⟩) (D q0).length la, .slice A3 (D r0).length c3])) w3 from ⟨A3, c3, la, rfl, HO2.out.kept hb3, hm3, below_then HB2.out hb3, hlq⟩)
      clear hm3 hb3
      go_wp2
      go_ret2
      exact HE.out
    | succ k =>
      obtain rfl : j = (k : Int) := by omega
      clear hj
      obtain ⟨ad, hA, hcell⟩ := HCA.out k wr (by omega) HBR.out
      subst hA
      have hcb := HCB.out wr HBR.out
      obtain ⟨x, q, m, hs1, hs2, hs3, hS, hx0, hx1, hq0, hq1, hm0, hm1, hr0, hr1⟩ := HS.out k out rr HO.out (by omega)
      obtain ⟨hrow, hfro⟩ := HW.out.cell (k := k) (by have := HO.out.len; have := HLA.out; omega)
      have HW2 := Lib.hid (HW.out.set k q)
      have HB2 := Lib.hid (HBR.out.setCell (p := ⟨w.heap.size, k, none⟩) (Nat.le_refl _) (.int .u32 q))
      have hcb2 := HCB.out _ HB2.out
      have HS2 := Lib.hid hS
      obtain ⟨hd0, hd1⟩ := HD.out k
      generalize out.getD k 0 = y at *
      generalize (D a).getD k 0 = dd at *
      clear hS HO HW HBR
      go_wp2
      go_roundw
      case rel => exact ⟨k, _, _, _, rfl, rfl, by omega, by omega, HS2, HW2, HB2⟩
      case measure => (simp [intOf]) <;> omega
def ddig (n : Nat) : List Int := (dg 10 (by decide) n).map fun d => 48 + d
theorem ddig_zero : ddig 0 = [] := by unfold ddig; rw [dg_zero]; rfl
theorem ddig_pos {n : Nat} (h : n ≠ 0) : ddig n = (48 + ((n % 10 : Nat) : Int)) :: ddig (n / 10) := by unfold ddig; rw [dg_pos _ h]; rfl
theorem ddig_len (n : Nat) : (ddig n).length ≤ bl n := by
  unfold ddig
  rw [List.length_map]
  refine dg_length_le _ ?_
  have h1 := lt_bl n
  have h2 : 2 ^ bl n ≤ 10 ^ bl n := Nat.pow_le_pow_left (by decide) _
  omega
theorem ddig_nil {n : Nat} : ddig n = [] ↔ n = 0 := by
  constructor
  · intro h
    rcases Nat.eq_zero_or_pos n with h0 | h0
    · exact h0
    · rw [ddig_pos (by omega)] at h; simp at h
  · rintro rfl; exact ddig_zero
def txt (z : Int) : List Int := (if z < 0 then [45] else []) ++ (if z = 0 then [48] else (ddig z.natAbs).reverse)
theorem infoB : (Try.prog.info? 5).map (fun i => (i.zero, i.size, i.bytes)) = some (some (.int .u8 0), 1, 1) := by kernel_rfl
theorem gtrans {w1 w2 w3 : World} {o o2 : Option Nat} (h : w1.grownBy w2 o) (ho : o2 = o ∨ ∃ b, o2 = some b ∧ w1.heap.size ≤ b) (k : w2.grownBy w3 o2) : w1.grownBy w3 o := by
  refine ⟨k.os.trans h.os, k.tape.trans h.tape, k.output.trans h.output, Nat.le_trans h.size k.size, fun i hi hne => ?_⟩
  refine (k.block i (Nat.lt_of_lt_of_le hi h.size) ?_).trans (h.block i hi hne)
  rcases ho with rfl | ⟨b, rfl, hb⟩
  · exact hne
  · intro e
    injection e with e
    omega
theorem mg_empty {w w1 : World} {A : Option Addr} {c : Nat} (h : Mg w A c []) : Mg w1 A c [] := ⟨⟨h.1.1, h.1.2.1, fun h0 => absurd h0 (by simp)⟩, h.2⟩
theorem divTen {w : World} {A : Option Addr} {c y : Nat} (ha : Mg (w.alloc (.cells #[.int .u32 10] 110)) A c (D y)) (hb : bl y ≤ 100000) (h0 : y ≠ 0) :
    Calls Try.prog 71 #[.slice A (D y).length c, .slice (some ⟨w.heap.size, 0, none⟩) 1 1] (w.alloc (.cells #[.int .u32 10] 110)) (fun e w' => ∃ A1 c1 B1 d1, e = .returned (.tuple #[.slice A1 (D (y / 10)).length c1, .slice B1 (D (y % 10)).length d1]) ∧
      (∀ (W3 : World) (o : Option Nat), w'.grownBy W3 o → (∀ k, o = some k → k < w.heap.size) → Mg W3 A1 c1 (D (y / 10))) ∧ Mg w' B1 d1 (D (y % 10)) ∧ Below w.heap.size w w') := by
  have hD10 : D 10 = [((10 : Nat) : Int)] := D_small (by decide) (by decide)
  have hten : Mg (w.alloc (.cells #[.int .u32 10] 110)) (some ⟨w.heap.size, 0, none⟩) 1 (D 10) := by
    rw [hD10]
    exact Mg.row (xs := [((10 : Nat) : Int)]) (heap_alloc_new w _) rfl (by simp)
  have hl10 : (D 10).length = 1 := by rw [hD10]; rfl
  rcases Nat.lt_or_ge y 10 with hy | hy
  · have := divSmall ha hten (by omega) (by decide) hy
    rw [hl10] at this
    refine this.mono ?_
    rintro e w' ⟨A1, c1, B1, d1, rfl, h1, h2, h3⟩
    refine ⟨A1, c1, B1, d1, rfl, fun W3 o _ _ => ?_, h2, below_then (Ma.below_alloc w _) h3⟩
    have e0 : y / 10 = 0 := by omega
    rw [e0, D_zero] at h1 ⊢
    exact mg_empty h1
  · have := divOneR ha hten (by omega) (by decide) (by decide) hy
    rw [hl10] at this
    refine this.mono ?_
    rintro e w' ⟨B1, d1, c1, rfl, h1, h2, h3, h4⟩
    refine ⟨_, c1, B1, d1, rfl, fun W3 o hg ho => ?_, h2, below_then (Ma.below_alloc w _) h3⟩
    have hl := D_len (y / 10)
    have hbm := bl_mono (Nat.div_le_self y 10)
    have hO := h1.grown hg (by
      intro e
      have h5 := ho _ e.symm
      have h6 := (Ma.below_alloc w (.cells #[.int .u32 10] 110)).size
      omega)
    exact hO.mg (c := c1) (by omega) h4
theorem rev_loop (l : List Int) (hl : l.length ≤ 1099511627776) : ∀ (d i : Nat) (ys : List Int), l.length ≤ d + 2 * i → 2 * i ≤ l.length + 1 → ys.length = l.length → (∀ t, t < l.length → ys.getD t 0 = if i ≤ t ∧ t + i < l.length then l.getD t 0 else l.getD (l.length - 1 - t) 0) →
    Ev (fun k => slices_Reverse_byte_byte.l0 k ys (i : Int) ((l.length : Int) - 1 - i)) l.reverse := by
  have hend : ∀ (i : Nat) (ys : List Int), l.length ≤ 2 * i + 1 → ys.length = l.length → (∀ t, t < l.length → ys.getD t 0 = if i ≤ t ∧ t + i < l.length then l.getD t 0 else l.getD (l.length - 1 - t) 0) → ys = l.reverse := by
    intro i ys h1 h2 h3
    refine List.ext_getElem (by simp [h2]) fun t ha hb => ?_
    have ht : t < l.length := by omega
    have h4 := h3 t ht
    rw [getD_lt ha] at h4
    rw [h4, List.getElem_reverse]
    split
    · next hc =>
      have : t = l.length - 1 - t := by omega
      rw [getD_lt ht]
      congr 1
    · rw [getD_lt (by omega)]
  intro d
  induction d with
  | zero =>
    intro i ys h1 h2 h3 h4
    have e := hend i ys (by omega) h3 h4
    refine Ev.step (f := fun _ => some l.reverse) (fun k => ?_) (ev_of fun _ => rfl)
    simp only [slices_Reverse_byte_byte.l0]
    rw [if_neg (by omega), e]
  | succ d ih =>
    intro i ys h1 h2 h3 h4
    by_cases hc : 2 * i + 1 < l.length
    · have e1 : ((l.length : Int) - 1 - i).toNat = l.length - 1 - i := by omega
      have ej : ((l.length : Int) - 1 - (i : Int)) = ((l.length - 1 - i : Nat) : Int) := by omega
      refine Ev.step (f := fun k => slices_Reverse_byte_byte.l0 k ((ys.set i (ys.getD (l.length - 1 - i) 0)).set (l.length - 1 - i) (ys.getD i 0)) ((i + 1 : Nat) : Int) ((l.length : Int) - 1 - ((i + 1 : Nat) : Int))) (fun k => ?_) (ih (i + 1) _ (by omega) (by omega) (by simp [h3]) fun t ht => ?_)
      · simp only [slices_Reverse_byte_byte.l0]
        rw [if_pos (by omega), if_pos (by omega), if_pos (by omega), if_pos (by omega), if_pos (by omega), ej, rdN, rdN, wrapZ _ (by omega) (by omega), wrapZ _ (by omega) (by omega)]
        congr 1
        omega
      · by_cases ht1 : t = l.length - 1 - i
        · subst ht1
          rw [Dg.getD_set_eq (by simp; omega), if_neg (by omega), h4 i (by omega), if_pos (by omega)]
          congr 1
          omega
        · rw [Dg.getD_set_ne (by omega)]
          by_cases ht2 : t = i
          · subst ht2
            rw [Dg.getD_set_eq (by omega), if_neg (by omega), h4 _ (by omega), if_pos (by omega)]
          · rw [Dg.getD_set_ne (by omega), h4 t ht]
            by_cases hin : i ≤ t ∧ t + i < l.length
            · rw [if_pos hin, if_pos (by omega)]
            · rw [if_neg hin, if_neg (by omega)]
    · have e := hend i ys (by omega) h3 h4
      refine Ev.step (f := fun _ => some l.reverse) (fun k => ?_) (ev_of fun _ => rfl)
      simp only [slices_Reverse_byte_byte.l0]
      rw [if_neg (by omega), e]
theorem rev (l : List Int) (hl : l.length ≤ 1099511627776) : Ev (fun k => slices_Reverse_byte_byte.f k l) l.reverse := by
  unfold slices_Reverse_byte_byte.f
  rw [wrapZ _ (by omega) (by omega)]
  have := rev_loop l hl l.length 0 l (by omega) (by omega) rfl (fun t ht => by rw [if_pos (by omega)])
  simpa using this
set_option maxHeartbeats 1600000 in
set_option maxRecDepth 100000 in
theorem string {w : World} {q : Nat} {z : Int} (hz : Z w q z) (hb : bl z.natAbs ≤ 100000) :
    Calls Try.prog 47 #[.pointer (some ⟨q, 0, none⟩)] w (fun e w' => e = .returned (.string (strOfNums (txt z))) ∧ Below w.heap.size w w') := by
  obtain ⟨A, c, k0, k1, hm, hq⟩ := Z.open hz
  have HM := Lib.hid hm
  have hln := ddig_len z.natAbs
  clear hm hz
  go_enter Try.func47, Try.ntmps47
  go_wp2_with fail
  go_region
  have hR0 : Kd.R (Kd.int .u8) 5 (w.alloc (.cells #[] 5)) w.heap.size (fun _ => True) (.slice (some ⟨w.heap.size, 0, none⟩) 0 0) ([] : List Int) := Kd.R_of_own (World.ownsRow_made w #[] 0 (Nat.le_refl _) (by decide) rfl) (fun _ _ => trivial)
  have HR0 := Lib.hid (Kd.R_drew hR0)
  have HB0 := Lib.hid (show Below w.heap.size w (w.alloc (.cells #[] 5)).drew from (Ma.below_alloc w _).drew)
  have HM0 := Lib.hid (show ∀ W2, ((w.alloc (.cells #[] 5)).drew).grownBy W2 (Value.slice (some ⟨w.heap.size, 0, none⟩) 0 0).ownBlock → Mg W2 A c (D z.natAbs) from fun W2 hg => HM.out.below (below_grown HB0.out hg (Nat.le_refl _)))
  clear hR0 HM k1
  generalize hx : z.natAbs = x at *
  have HXX := Lib.hid hx
  clear hx
  go_wp2_with fail
  go_loopg [3, 4] x (fun gk v mv wr => ∃ (acc : List Int) (A' : Option Addr) (c' : Nat), mv = .slice A' (D gk).length c' ∧ gk ≤ x ∧ Hid (∀ W2, wr.grownBy W2 v.ownBlock → Mg W2 A' c' (D gk)) ∧ Hid (Kd.R (Kd.int .u8) 5 wr w.heap.size (fun _ => True) v acc) ∧ Hid (acc ++ ddig gk = ddig x) ∧ Hid (Below w.heap.size w wr))
  case atStart => exact ⟨[], A, c, rfl, Nat.le_refl _, HM0, HR0, Lib.hid (by simp), HB0⟩
  case round =>
    clear HM0 HR0 HB0
    obtain ⟨acc, A', c', rfl, hgk, HMG, HR, HACC, HBE⟩ := hrel
    have hal : acc.length ≤ 100000 := by
      have := congrArg List.length HACC.out
      rw [List.length_append] at this
      omega
    have hlt : w.heap.size ≤ wr.heap.size := HBE.out.size
    by_cases h0 : gk = 0
    · subst h0
      have hacc : acc = ddig x := by have := HACC.out; rw [ddig_zero, List.append_nil] at this; exact this
      have hD0 : (D 0).length = 0 := by rw [D_zero]; rfl
      have k0' := (HBE.out.cell (p := ⟨q, 0, none⟩) hq).trans k0
      subst hacc
      have HK0 := Lib.hid k0
      clear HMG HACC k0
      by_cases hx0 : x = 0
      · have hz0 : z = 0 := by have := HXX.out; omega
        subst hz0
        subst hx0
        have hz1 : (decide ((0 : Int) < 0)) = false := by decide
        rw [hz1] at k0'
        have HK1 := Lib.hid (show w.cell? ⟨q, 0, none⟩ = some (.bool false) from by rw [← hz1]; exact HK0.out)
        clear HK0
        rw [ddig_zero] at HR hal
        obtain ⟨A1, c1, rfl⟩ := Kd.R_slice HR.out
        have HLN := Aside0.mk (show (([] : List Int).length + 1) * 1 ≤ 140737488355328 by decide)
        go_wp2_with ((with_reducible refine gate_builtin (b := .append) (xs := #[.tmp 39, .tmp 40]) rfl ?_); at_builtin; refine Kd.R_append (Kd.int .u8) (w0 := w) w.heap.size rfl (.tmp 39) (.tmp 40) 109 5 (.int .u8 0) 1 rfl Try.underlying109 infoB rfl (by decide) (by omega) _ [] 48 [.int .u8 48] (fun _ => True) (fun _ => False) rfl rfl rfl (fun _ hk => hk.elim) (fun _ _ => trivial) HR.out HBE.out hlt HLN.out ?_; intro v2 w2 ho hb2 hg2 hat2; obtain ⟨A2, c2, rfl⟩ := Kd.R_slice ho; have HO2 := Lib.hid ho; have HB2 := Lib.hid hb2; have k2 := (hb2.cell (p := ⟨q, 0, none⟩) hq).trans HK1.out; clear ho hb2 hg2 hat2 HR HBE HLN)
        obtain ⟨K, hK⟩ := (rev ([] ++ [48]) (by simp)).rounds
        have hrv := slices_Reverse_byte_byte.calls K (fun _ => True) _ _ _ w w2 HB2.out HO2.out hK
        try simp only [List.length_append, List.length_cons, List.length_nil, List.nil_append, Nat.zero_add] at hrv
        have HRV := Lib.hid hrv
        clear hK hrv
        go_wp2_with fail
        refine HRV.out.mono ?_
        rintro e w3 ⟨rfl, hr3, hb3, -⟩
        have hcv := own_string (P := Try.prog) (src := 109) (dst := 9) Try.underlying109 Try.underlying5 Try.underlying9 (Kd.own_of_R hr3)
        have HB3 := Lib.hid hb3
        clear hr3 hb3 HRV
        go_wp2
        go_ret
        exact ⟨by rw [show txt 0 = [48] by decide]; rfl, HB3.out⟩
      · have hzn : z ≠ 0 := by have := HXX.out; omega
        have hne : ddig x ≠ [] := fun h => hx0 (ddig_nil.1 h)
        have hlp : 0 < (ddig x).length := List.length_pos_iff.2 hne
        have hl2 := ddig_len x
        obtain ⟨A1, c1, rfl⟩ := Kd.R_slice HR.out
        by_cases hneg : z < 0
        · have hd : decide (z < 0) = true := by simpa using hneg
          rw [hd] at k0'
          have HK1 := Lib.hid (show w.cell? ⟨q, 0, none⟩ = some (.bool true) from by rw [← hd]; exact HK0.out)
          clear HK0
          have HLN := Aside0.mk (show ((ddig x).length + 1) * 1 ≤ 140737488355328 by omega)
          have HTX := Lib.hid (show txt z = (ddig x ++ [45]).reverse by unfold txt; rw [if_pos hneg, if_neg hzn, HXX.out]; simp)
          have HLL := Lib.hid (show (ddig x ++ [45]).length ≤ 1099511627776 by rw [List.length_append]; simp; omega)
          generalize ddig x = dx at *
          go_wp2_with ((with_reducible refine gate_builtin (b := .append) (xs := #[.tmp 46, .tmp 47]) rfl ?_); at_builtin; refine Kd.R_append (Kd.int .u8) (w0 := w) w.heap.size rfl (.tmp 46) (.tmp 47) 109 5 (.int .u8 0) 1 rfl Try.underlying109 infoB rfl (by decide) (by omega) _ dx 45 [.int .u8 45] (fun _ => True) (fun _ => False) rfl rfl rfl (fun _ hk => hk.elim) (fun _ _ => trivial) HR.out HBE.out hlt HLN.out ?_; intro v2 w2 ho hb2 hg2 hat2; obtain ⟨A2, c2, rfl⟩ := Kd.R_slice ho; have HO2 := Lib.hid ho; have HB2 := Lib.hid hb2; have k2 := (hb2.cell (p := ⟨q, 0, none⟩) hq).trans HK1.out; clear ho hb2 hg2 hat2 HR HBE HLN)
          obtain ⟨K, hK⟩ := (rev (dx ++ [45]) HLL.out).rounds
          have hrv := slices_Reverse_byte_byte.calls K (fun _ => True) _ _ _ w w2 HB2.out HO2.out hK
          try simp only [List.length_append, List.length_cons, List.length_nil, List.nil_append, Nat.zero_add] at hrv
          have HRV := Lib.hid hrv
          clear hK hrv
          go_wp2_with fail
          refine HRV.out.mono ?_
          rintro e w3 ⟨rfl, hr3, hb3, -⟩
          have hcv := own_string (P := Try.prog) (src := 109) (dst := 9) Try.underlying109 Try.underlying5 Try.underlying9 (Kd.own_of_R hr3)
          have HB3 := Lib.hid hb3
          clear hr3 hb3 HRV
          go_wp2
          go_ret
          exact ⟨by rw [HTX.out]; first | rfl | simp, HB3.out⟩
        · have hd : decide (z < 0) = false := by simpa using hneg
          rw [hd] at k0'
          have HTX := Lib.hid (show txt z = (ddig x).reverse by unfold txt; rw [if_neg hneg, if_neg hzn, HXX.out]; simp)
          have HLL := Lib.hid (show (ddig x).length ≤ 1099511627776 by omega)
          generalize ddig x = dx at *
          obtain ⟨K, hK⟩ := (rev dx HLL.out).rounds
          have hrv := slices_Reverse_byte_byte.calls K (fun _ => True) _ _ _ w wr HBE.out HR.out hK
          try simp only [List.length_append, List.length_cons, List.length_nil, List.nil_append, Nat.zero_add] at hrv
          have HRV := Lib.hid hrv
          clear hK hrv
          go_wp2_with fail
          refine HRV.out.mono ?_
          rintro e w3 ⟨rfl, hr3, hb3, -⟩
          have hcv := own_string (P := Try.prog) (src := 109) (dst := 9) Try.underlying109 Try.underlying5 Try.underlying9 (Kd.own_of_R hr3)
          have HB3 := Lib.hid hb3
          clear hr3 hb3 HRV
          go_wp2
          go_ret
          exact ⟨by rw [HTX.out]; first | rfl | simp, HB3.out⟩
    · have hDp := D_pos h0
      have hbg : bl gk ≤ 100000 := Nat.le_trans (bl_mono hgk) hb
      have hdv := divTen (w := wr) (HMG.out _ (grown_below (Ma.below_alloc wr (.cells #[.int .u32 10] 110)) _)) hbg h0
      have hdd : ddig gk = (48 + ((gk % 10 : Nat) : Int)) :: ddig (gk / 10) := ddig_pos h0
      have HACC2 := Lib.hid (show (acc ++ [48 + ((gk % 10 : Nat) : Int)]) ++ ddig (gk / 10) = ddig x by rw [List.append_assoc]; rw [← HACC.out, hdd]; rfl)
      have hq10 : gk / 10 < gk := Nat.div_lt_self (by omega) (by decide)
      have hr10 : gk % 10 < 10 := Nat.mod_lt _ (by decide)
      have hlr : (gk % 10 = 0 ∧ (D (gk % 10)).length = 0) ∨ (gk % 10 ≠ 0 ∧ D (gk % 10) = [((gk % 10 : Nat) : Int)]) := by
        by_cases h : gk % 10 = 0
        · exact .inl ⟨h, by rw [h, D_zero]; rfl⟩
        · exact .inr ⟨h, D_small h (by omega)⟩
      have HDV := Lib.hid hdv
      have HLN := Aside0.mk (show (acc.length + 1) * 1 ≤ 140737488355328 by omega)
      have HOWN := Lib.hid (fun k hk => ((Kd.own_of_R HR.out).lt k hk).2)
      clear hdv hdd HACC HMG
      generalize gk / 10 = q1 at *
      generalize gk % 10 = r1 at *
      generalize (D gk).length = lg at *
      go_wp2_with fail
      refine HDV.out.mono ?_
      rintro e w1 ⟨A1, c1, B1, d1, rfl, hm1, hm2, hb1⟩
      have HM1 := Lib.hid (fun (W3 : World) hg => hm1 W3 _ hg HOWN.out)
      have HB1 := Lib.hid (HBE.out.trans (hb1.mono hlt))
      have HR1 := Lib.hid (Kd.R_below HR.out hb1)
      have hsz1 := HB1.out.size
      clear HDV HBE HR hb1 hm1 HOWN
      rcases hlr with ⟨hr0, hrl⟩ | ⟨hr0, hrd⟩
      · subst hr0
        clear hm2
        go_wp2_with ((with_reducible refine gate_builtin (b := .append) (xs := #[.tmp 31, .tmp 33]) rfl ?_); at_builtin; refine Kd.R_append (Kd.int .u8) (w0 := w) w.heap.size rfl (.tmp 31) (.tmp 33) 109 5 (.int .u8 0) 1 rfl Try.underlying109 infoB rfl (by decide) (by omega) _ acc 48 [.int .u8 48] (fun _ => True) (fun _ => False) rfl rfl rfl (fun _ hk => hk.elim) (fun _ _ => trivial) HR1.out HB1.out hsz1 HLN.out ?_; intro v2 w2 ho hb2 hg2 hat2; have HO2 := Lib.hid ho; have HB2 := Lib.hid hb2; have HM2 := Lib.hid (fun (W3 : World) hg => HM1.out W3 (gtrans hg2 hat2 hg)); clear ho hb2 hg2 hat2 HR1 HB1 HM1)
        go_roundg q1
        case measure => exact hq10
        case rel => exact ⟨_, A1, c1, rfl, by omega, HM2, HO2, HACC2, HB2⟩
      · obtain ⟨bd, hB, hcell⟩ := Kd.at_int hm2.1 (0 : Int) (by omega) (by rw [hrd]; simp)
        subst hB
        rw [show (0 : Int).toNat = 0 from rfl, show rd (D r1) (0 : Int) = (r1 : Int) by rw [hrd]; rfl] at hcell
        have e : bd.add 0 = bd := by simp [Addr.add]
        rw [e] at hcell
        have hrl : (D r1).length = 1 := by rw [hrd]; rfl
        have hwr : (48 + (r1 : Int) % 256) % 256 = 48 + (r1 : Int) := by omega
        clear hm2 e hrd
        go_wp2_with ((with_reducible refine gate_builtin (b := .append) (xs := #[.tmp 31, .tmp 33]) rfl ?_); at_builtin; refine Kd.R_append (Kd.int .u8) (w0 := w) w.heap.size rfl (.tmp 31) (.tmp 33) 109 5 (.int .u8 0) 1 rfl Try.underlying109 infoB rfl (by decide) (by omega) _ acc (48 + (r1 : Int)) [.int .u8 (48 + (r1 : Int))] (fun _ => True) (fun _ => False) rfl rfl rfl (fun _ hk => hk.elim) (fun _ _ => trivial) HR1.out HB1.out hsz1 HLN.out ?_; intro v2 w2 ho hb2 hg2 hat2; have HO2 := Lib.hid ho; have HB2 := Lib.hid hb2; have HM2 := Lib.hid (fun (W3 : World) hg => HM1.out W3 (gtrans hg2 hat2 hg)); clear ho hb2 hg2 hat2 HR1 HB1 HM1)
        go_roundg q1
        case measure => exact hq10
        case rel => exact ⟨_, A1, c1, rfl, by omega, HM2, HO2, HACC2, HB2⟩
end Go.Proofs.Ytfinbmnjfnajiaa.Ts
end
section
set_option linter.unusedVariables false
set_option linter.unusedSimpArgs false
namespace Go.Proofs.Ytfinbmnjfnajiaa.PW
open Go.RowKit Go.Proofs.YtfinbmnjfnajiaaW.PrintWords Go.Proofs.Ytfinbmnjfnajiaa.Pc Go.Proofs.Ytfinbmnjfnajiaa.Pb Go.Proofs.Ytfinbmnjfnajiaa.Pw Go.Proofs.Ytfinbmnjfnajiaa.Ma Go.Proofs.Ytfinbmnjfnajiaa.Mb Go.Proofs.Ytfinbmnjfnajiaa.Mc Go.Proofs.Ytfinbmnjfnajiaa.Md Go.Proofs.Ytfinbmnjfnajiaa.Me Go.Proofs.Ytfinbmnjfnajiaa.Mg Go.Proofs.Ytfinbmnjfnajiaa.Mh Go.Proofs.Ytfinbmnjfnajiaa.Ts Dg
def impl_WholeText.f (a0_0 : Int) (l0_1 : List Int) : Option (ByteArray × Int) := if isW a0_0 l0_1 = true then some (strOfNums (txt (wv a0_0 l0_1)), 0) else some ((⟨#[]⟩ : ByteArray), 1)
set_option maxHeartbeats 800000 in
theorem impl_WholeText.calls (a0_0 : Int) (A0_1 : Option Addr) (c0_1 : Nat) (l0_1 : List Int) (r1 : ByteArray) (r2 : Int) (w : World) (hr0_1 : Kd.C (Kd.int .i64) w A0_1 l0_1.length l0_1) (hc0_1 : l0_1.length ≤ c0_1) (h : impl_WholeText.f a0_0 l0_1 = some (r1, r2)) :
    Calls Try.prog 19 #[.agg #[.int .i64 a0_0, .slice A0_1 l0_1.length c0_1]] w fun e w' => e = .returned (.tuple #[.string r1, .int .i64 r2]) ∧ Below w.heap.size w w' := by
  unfold impl_WholeText.f at h
  have hI := fun (W : World) (hb : Below w.heap.size w W) => cIs (s := a0_0) (C_at hr0_1 hb) hc0_1 hr0_1.2.1
  cases hw : isW a0_0 l0_1 with
  | false =>
    rw [hw] at h hI
    rw [if_neg (by simp)] at h
    obtain ⟨rfl, rfl⟩ := Prod.mk.inj (Option.some.inj h)
    have HI := Lib.hid hI
    clear hI h hw hr0_1 hc0_1
    go_enter Try.func19, Try.ntmps19
    go_wp2_with fail
    refine (HI.out _ (below_alloc w _)).mono ?_
    rintro e w1 ⟨rfl, hb⟩
    have HB1 := Lib.hid (below_then (below_alloc w _) hb)
    clear hb
    go_wp2
    go_ret2
    exact ⟨rfl, HB1.out⟩
  | true =>
    have hbl := (isW_eq hw).2.2
    have hT := fun (W : World) (hb : Below w.heap.size w W) => cBig (c := c0_1) (C_at hr0_1 hb) hw
    rw [hw] at h hI
    rw [if_pos rfl] at h
    obtain ⟨rfl, rfl⟩ := Prod.mk.inj (Option.some.inj h)
    have HI := Lib.hid hI
    have HT := Lib.hid hT
    clear hI hT h hw hr0_1 hc0_1
    go_enter Try.func19, Try.ntmps19
    go_wp2_with fail
    refine (HI.out _ (below_alloc w _)).mono ?_
    rintro e w1 ⟨rfl, hb⟩
    have hbx := (hb.block w.heap.size (by simp)).trans (heap_alloc_new w _)
    have c0 := blk_cell hbx 0
    have c1 := blk_cell hbx 1
    have HB1 := Lib.hid (below_then (below_alloc w _) hb)
    clear hb hbx
    go_wp2_with fail
    refine (HT.out w1 HB1.out).mono ?_
    rintro e w2 ⟨g, rfl, hz, hg, hb2⟩
    have HL := Lib.hid (Ts.string hz (by omega))
    have HB2 := Lib.hid (below_then HB1.out hb2)
    clear hz hg hb2 c0 c1
    go_wp2_with fail
    refine HL.out.mono ?_
    rintro e w3 ⟨rfl, hb3⟩
    have HB3 := Lib.hid (below_then HB2.out hb3)
    clear hb3
    go_wp2
    go_ret2
    exact ⟨rfl, HB3.out⟩
end Go.Proofs.Ytfinbmnjfnajiaa.PW
end
section
namespace Go.Proofs.Ytfinbmnjfnajiaa.PW
open Go.RowKit Go.Proofs.YtfinbmnjfnajiaaW.PrintWords Go.Proofs.YtfinbmnjfnajiaaW.PrintLast Go.Proofs.YtfinbmnjfnajiaaW.PrintMore
attribute [local go_sem] max2_int min2_int max_two min_two max_three min_three max_four min_four   -- for this text's walks alone
set_option linter.unusedVariables false
set_option linter.unusedSimpArgs false
def laws_FnExactWholeText.j0 : Nat → Bool → Int → List Int → Int → List Int → Option (Bool)
  | 0, _, _, _, _, _ => none
  | k + 1, x34, x232000, x232001, x244000, x244001 => if x34 = true then (some false) else ((laws_toWhole.f k x232000 x232001).bind fun bt246 => ((laws_eqWhole.f k x244000 x244001 bt246.1 bt246.2).bind fun t250 => (if t250 = true then (some true) else (some false))))
def laws_FnExactWholeText.f (k : Nat) (a0_0 : Int) (l0_1 : List Int) : Option (Bool) := (laws_szWhole.f a0_0 l0_1 1048576).bind fun t232 => (if t232 < 0 then (some true) else ((laws_toWhole.f k a0_0 l0_1).bind fun bt233 => ((spec_WholeText.f k bt233.1 bt233.2).bind fun bt237 => ((laws_toWhole.f k a0_0 l0_1).bind fun bt239 => ((impl_WholeText.f bt239.1 bt239.2).bind fun bt244 => (if bt244.1.toList = bt237.1.toList then (laws_FnExactWholeText.j0 k (bt244.2 != bt237.2) a0_0 l0_1 bt239.1 bt239.2) else (laws_FnExactWholeText.j0 k true a0_0 l0_1 bt239.1 bt239.2)))))))
theorem laws_FnExactWholeText.mono_l : ∀ k, (∀ y0 y1 y2 y3 y4, LeO (laws_FnExactWholeText.j0 k y0 y1 y2 y3 y4) (laws_FnExactWholeText.j0 (k + 1) y0 y1 y2 y3 y4))
  | 0 => fun _ _ _ _ _ r h => by simp [laws_FnExactWholeText.j0] at h
  | k + 1 => by
    have ih0 := laws_FnExactWholeText.mono_l k
    · intro y0 y1 y2 y3 y4
      unfold laws_FnExactWholeText.j0
      repeat' first
      | (with_reducible exact ih0 _ _ _ _ _)
      | (with_reducible exact laws_eqWhole.mono _ _ _ _ _)
      | (with_reducible exact laws_toWhole.mono _ _ _)
      | (with_reducible exact spec_WholeText.mono _ _ _)
      | (with_reducible exact LeO.refl _)
      | (with_reducible exact LeO.none _)
      | (with_reducible refine LeO.ite ?_ ?_)
      | (with_reducible refine LeO.bind ?_ (fun _ => ?_))
      | exact ih0 _ _ _ _ _
      | exact laws_eqWhole.mono _ _ _ _ _
      | exact laws_toWhole.mono _ _ _
      | exact spec_WholeText.mono _ _ _
      | exact LeO.none _
      | refine LeO.ite ?_ ?_
      | refine LeO.bind ?_ (fun _ => ?_)
theorem laws_FnExactWholeText.mono : ∀ a0 a1 k, LeO (laws_FnExactWholeText.f k a0 a1) (laws_FnExactWholeText.f (k + 1) a0 a1) := by
  intro a0 a1 k
  have ih0 := laws_FnExactWholeText.mono_l k
  unfold laws_FnExactWholeText.f
  repeat' first
      | (with_reducible exact ih0 _ _ _ _ _)
      | (with_reducible exact laws_eqWhole.mono _ _ _ _ _)
      | (with_reducible exact laws_toWhole.mono _ _ _)
      | (with_reducible exact spec_WholeText.mono _ _ _)
      | (with_reducible exact LeO.refl _)
      | (with_reducible exact LeO.none _)
      | (with_reducible refine LeO.ite ?_ ?_)
      | (with_reducible refine LeO.bind ?_ (fun _ => ?_))
      | exact ih0 _ _ _ _ _
      | exact laws_eqWhole.mono _ _ _ _ _
      | exact laws_toWhole.mono _ _ _
      | exact spec_WholeText.mono _ _ _
      | exact LeO.none _
      | refine LeO.ite ?_ ?_
      | refine LeO.bind ?_ (fun _ => ?_)
set_option maxHeartbeats 8000000 in
set_option maxRecDepth 100000 in
theorem laws_FnExactWholeText.calls (k : Nat) (a0_0 : Int) (A0_1 : Option Addr) (c0_1 : Nat) (l0_1 : List Int) (r : Bool) (w : World) (hr0_1 : Kd.C (Kd.int .i64) w A0_1 l0_1.length l0_1) (hc0_1 : l0_1.length ≤ c0_1) (h : laws_FnExactWholeText.f k a0_0 l0_1 = some r) :
    Calls Try.prog 5 #[.agg #[.int .i64 a0_0, .slice A0_1 l0_1.length c0_1]] w fun e w' => e = .returned (.bool r) ∧ Below w.heap.size w w' := by
  have hu24 := Try.underlying24
  have hu26 := Try.underlying26
  have HR0_1 := Aside0.mk hr0_1
  have HC0_1 := Aside0.mk hc0_1
  clear hr0_1 hc0_1
  have HB := Aside0.mk (Below.refl w.heap.size w)
  have H : ((laws_szWhole.f a0_0 l0_1 1048576).bind fun t232 => (if t232 < 0 then (some true) else ((laws_toWhole.f k a0_0 l0_1).bind fun bt233 => ((spec_WholeText.f k bt233.1 bt233.2).bind fun bt237 => ((laws_toWhole.f k a0_0 l0_1).bind fun bt239 => ((impl_WholeText.f bt239.1 bt239.2).bind fun bt244 => (if bt244.1.toList = bt237.1.toList then (laws_FnExactWholeText.j0 k (bt244.2 != bt237.2) a0_0 l0_1 bt239.1 bt239.2) else (laws_FnExactWholeText.j0 k true a0_0 l0_1 bt239.1 bt239.2)))))))) = some r := h
  clear h
  replace H := Option.bind_eq_some_iff.mp H
  obtain ⟨t232, A20, H⟩ := H
  replace H : (if t232 < 0 then (some true) else ((laws_toWhole.f k a0_0 l0_1).bind fun bt233 => ((spec_WholeText.f k bt233.1 bt233.2).bind fun bt237 => ((laws_toWhole.f k a0_0 l0_1).bind fun bt239 => ((impl_WholeText.f bt239.1 bt239.2).bind fun bt244 => (if bt244.1.toList = bt237.1.toList then (laws_FnExactWholeText.j0 k (bt244.2 != bt237.2) a0_0 l0_1 bt239.1 bt239.2) else (laws_FnExactWholeText.j0 k true a0_0 l0_1 bt239.1 bt239.2))))))) = some r := H
  have A2 := Aside0.mk A20
  clear A20
  by_cases c3 : t232 < 0
  · rw [if_pos c3] at H
    have c3b0 : decide (t232 < 0) = true := decide_eq_true c3
    clear c3
    obtain rfl := Option.some.inj H
    go_enter Try.func5, Try.ntmps5
    go_wp2_with (first | ((with_reducible refine gate_dst (N := 1) rfl ?_); refine box_event ?hg (N := 1) ?hd (cs := #[.int .i64 a0_0, .slice A0_1 l0_1.length c0_1]) (t := 24) ?hr ?_; (case hd => rfl); (case hg => rfl); (case hr => first | (go_simp; done) | (go_simp; rfl)); intro gb231 hg w4 hbox hb; have n0_ := Aside0.mk (below_step (by repeat (first | (with_reducible first | exact HB.out | apply below_alloc | apply pw_below_drewN | apply below_drew1) | exact HB.out)) hb); have n1_ := Aside0.mk (hbox); have n2_ := Aside0.mk ((by rw [hg]; exact (below_size (by repeat (first | (with_reducible first | exact HB.out | apply below_alloc | apply pw_below_drewN | apply below_drew1) | exact HB.out))) : w.heap.size ≤ gb231)); have n3_ := Aside0.mk ((by rw [hg]; exact (below_size (by repeat (first | (with_reducible first | exact HB.out | apply below_alloc | apply pw_below_drewN | apply below_drew1) | exact HB.out))) : w.heap.size ≤ gb231)); clear HB; have HB := n0_; have BK231 := n1_; have GW231 := n2_; have GE231 := n3_; clear n0_ n1_ n2_ n3_; clear hb hbox hg; have hcz5_0 : w4.cell? ⟨gb231, 0, none⟩ = some (.int .i64 a0_0) := (blk_cell BK231.out 0).trans rfl; have hcz5_1 : w4.cell? ⟨gb231, 1, none⟩ = some (.slice A0_1 l0_1.length c0_1) := (blk_cell BK231.out 1).trans rfl; have hfz5_0 := blk_frozen BK231.out 0; have hfz5_1 := blk_frozen BK231.out 1) | ((with_reducible refine gate_callee (f := 9) rfl ?_); refine goesL_ (some 11) rfl rfl Try.func9 (by kernel_rfl) rfl #[.agg #[.int .i64 a0_0, .slice A0_1 l0_1.length c0_1], .int .i64 1048576] rfl (by (try simp only [List.map_toArray, List.map_cons, List.map_nil]); first | done | rfl | (simp only [List.length_drop, List.length_take]; rfl)) ?_; (with_reducible refine (laws_szWhole.calls a0_0 _ _ l0_1 1048576 t232 _ ?side1 ?side2 A2.out).mono ?_); (case side1 => repeat (first | exact (Kd.C_below HR0_1.out HB.out) | (with_reducible refine Kd.C_alloc ?_ _) | (with_reducible refine Kd.C_drewN ?_ _) | (with_reducible refine Kd.C_drew ?_))); (case side2 => exact HC0_1.out); rintro e w6 ⟨rfl, hb⟩; refine ⟨_, rfl, ?_⟩; have n0_ := Aside0.mk (blk_below (g := gb231) (o := .cells #[.int .i64 a0_0, .slice A0_1 l0_1.length c0_1] 24 (0, 0)) (by (with_reducible repeat (first | refine blk_drewN ?_ _ | refine blk_drew ?_ | refine blk_alloc ?_ _)); exact BK231.out) hb); have n1_ := Aside0.mk (below_step (by repeat (first | (with_reducible first | exact HB.out | apply below_alloc | apply pw_below_drewN | apply below_drew1 | refine below_set ?_ GE231.out) | exact HB.out)) hb); clear BK231; clear HB; have BK231 := n0_; have HB := n1_; clear n0_ n1_; (try clear hb); (try clear hb2); (try clear hk); (try clear hi)))
    go_ret
    exact ⟨by first | rfl | (simp [errW_none, errW_some] <;> rfl) | (simp [*, errW_none, errW_some] <;> rfl), by repeat (first | (with_reducible first | exact HB.out | apply below_alloc | apply pw_below_drewN | apply below_drew1 | refine below_set ?_ GE231.out) | exact HB.out)⟩
  · rw [if_neg c3] at H
    have c3b0 : decide (t232 < 0) = false := decide_eq_false c3
    clear c3
    replace H := Option.bind_eq_some_iff.mp H
    obtain ⟨⟨t233, t234⟩, A70, H⟩ := H
    replace H : ((spec_WholeText.f k t233 t234).bind fun bt237 => ((laws_toWhole.f k a0_0 l0_1).bind fun bt239 => ((impl_WholeText.f bt239.1 bt239.2).bind fun bt244 => (if bt244.1.toList = bt237.1.toList then (laws_FnExactWholeText.j0 k (bt244.2 != bt237.2) a0_0 l0_1 bt239.1 bt239.2) else (laws_FnExactWholeText.j0 k true a0_0 l0_1 bt239.1 bt239.2))))) = some r := H
    have A7 := Aside0.mk A70
    clear A70
    replace H := Option.bind_eq_some_iff.mp H
    obtain ⟨⟨t237, t238⟩, A80, H⟩ := H
    replace H : ((laws_toWhole.f k a0_0 l0_1).bind fun bt239 => ((impl_WholeText.f bt239.1 bt239.2).bind fun bt244 => (if bt244.1.toList = t237.toList then (laws_FnExactWholeText.j0 k (bt244.2 != t238) a0_0 l0_1 bt239.1 bt239.2) else (laws_FnExactWholeText.j0 k true a0_0 l0_1 bt239.1 bt239.2)))) = some r := H
    have A8 := Aside0.mk A80
    clear A80
    replace H := Option.bind_eq_some_iff.mp H
    obtain ⟨⟨t239, t240⟩, A90, H⟩ := H
    replace H : ((impl_WholeText.f t239 t240).bind fun bt244 => (if bt244.1.toList = t237.toList then (laws_FnExactWholeText.j0 k (bt244.2 != t238) a0_0 l0_1 t239 t240) else (laws_FnExactWholeText.j0 k true a0_0 l0_1 t239 t240))) = some r := H
    have A9 := Aside0.mk A90
    clear A90
    replace H := Option.bind_eq_some_iff.mp H
    obtain ⟨⟨t244, t245⟩, A100, H⟩ := H
    replace H : (if t244.toList = t237.toList then (laws_FnExactWholeText.j0 k (t245 != t238) a0_0 l0_1 t239 t240) else (laws_FnExactWholeText.j0 k true a0_0 l0_1 t239 t240)) = some r := H
    have A10 := Aside0.mk A100
    clear A100
    have HC11 := Aside0.mk H
    clear H
    go_enter Try.func5, Try.ntmps5
    go_upto_region 8 with (first | ((with_reducible refine gate_dst (N := 1) rfl ?_); refine box_event ?hg (N := 1) ?hd (cs := #[.int .i64 a0_0, .slice A0_1 l0_1.length c0_1]) (t := 24) ?hr ?_; (case hd => rfl); (case hg => rfl); (case hr => first | (go_simp; done) | (go_simp; rfl)); intro gb231 hg w12 hbox hb; have n0_ := Aside0.mk (below_step (by repeat (first | (with_reducible first | exact HB.out | apply below_alloc | apply pw_below_drewN | apply below_drew1) | exact HB.out)) hb); have n1_ := Aside0.mk (hbox); have n2_ := Aside0.mk ((by rw [hg]; exact (below_size (by repeat (first | (with_reducible first | exact HB.out | apply below_alloc | apply pw_below_drewN | apply below_drew1) | exact HB.out))) : w.heap.size ≤ gb231)); have n3_ := Aside0.mk ((by rw [hg]; exact (below_size (by repeat (first | (with_reducible first | exact HB.out | apply below_alloc | apply pw_below_drewN | apply below_drew1) | exact HB.out))) : w.heap.size ≤ gb231)); clear HB; have HB := n0_; have BK231 := n1_; have GW231 := n2_; have GE231 := n3_; clear n0_ n1_ n2_ n3_; clear hb hbox hg; have hcz13_0 : w12.cell? ⟨gb231, 0, none⟩ = some (.int .i64 a0_0) := (blk_cell BK231.out 0).trans rfl; have hcz13_1 : w12.cell? ⟨gb231, 1, none⟩ = some (.slice A0_1 l0_1.length c0_1) := (blk_cell BK231.out 1).trans rfl; have hfz13_0 := blk_frozen BK231.out 0; have hfz13_1 := blk_frozen BK231.out 1) | ((with_reducible refine gate_callee (f := 9) rfl ?_); refine goesL_ (some 11) rfl rfl Try.func9 (by kernel_rfl) rfl #[.agg #[.int .i64 a0_0, .slice A0_1 l0_1.length c0_1], .int .i64 1048576] rfl (by (try simp only [List.map_toArray, List.map_cons, List.map_nil]); first | done | rfl | (simp only [List.length_drop, List.length_take]; rfl)) ?_; (with_reducible refine (laws_szWhole.calls a0_0 _ _ l0_1 1048576 t232 _ ?side1 ?side2 A2.out).mono ?_); (case side1 => repeat (first | exact (Kd.C_below HR0_1.out HB.out) | (with_reducible refine Kd.C_alloc ?_ _) | (with_reducible refine Kd.C_drewN ?_ _) | (with_reducible refine Kd.C_drew ?_))); (case side2 => exact HC0_1.out); rintro e w14 ⟨rfl, hb⟩; refine ⟨_, rfl, ?_⟩; have n0_ := Aside0.mk (blk_below (g := gb231) (o := .cells #[.int .i64 a0_0, .slice A0_1 l0_1.length c0_1] 24 (0, 0)) (by (with_reducible repeat (first | refine blk_drewN ?_ _ | refine blk_drew ?_ | refine blk_alloc ?_ _)); exact BK231.out) hb); have n1_ := Aside0.mk (below_step (by repeat (first | (with_reducible first | exact HB.out | apply below_alloc | apply pw_below_drewN | apply below_drew1 | refine below_set ?_ GE231.out) | exact HB.out)) hb); clear BK231; clear HB; have BK231 := n0_; have HB := n1_; clear n0_ n1_; (try clear hb); (try clear hb2); (try clear hk); (try clear hi); have hcz15_0 : w14.cell? ⟨gb231, 0, none⟩ = some (.int .i64 a0_0) := (blk_cell BK231.out 0).trans rfl; have hcz15_1 : w14.cell? ⟨gb231, 1, none⟩ = some (.slice A0_1 l0_1.length c0_1) := (blk_cell BK231.out 1).trans rfl; have hfz15_0 := blk_frozen BK231.out 0; have hfz15_1 := blk_frozen BK231.out 1) | ((with_reducible refine gate_callee (f := 11) rfl ?_); refine goesL_ (some 16) rfl rfl Try.func11 (by kernel_rfl) rfl #[.agg #[.int .i64 a0_0, .slice A0_1 l0_1.length c0_1]] rfl (by (try simp only [List.map_toArray, List.map_cons, List.map_nil]); first | done | rfl | (simp only [List.length_drop, List.length_take]; rfl)) ?_; (with_reducible refine (laws_toWhole.calls k a0_0 _ _ l0_1 t233 t234 _ ?side1 ?side2 A7.out).mono ?_); (case side1 => repeat (first | exact (Kd.C_below HR0_1.out HB.out) | (with_reducible refine Kd.C_alloc ?_ _) | (with_reducible refine Kd.C_drewN ?_ _) | (with_reducible refine Kd.C_drew ?_))); (case side2 => exact HC0_1.out); rintro e w16 ⟨v235, rfl, ho0, hb⟩; refine ⟨_, rfl, ?_⟩; have n0_ := Aside0.mk (Kd.R_lower ho0 (below_size (by repeat (first | (with_reducible first | exact HB.out | apply below_alloc | apply pw_below_drewN | apply below_drew1 | refine below_set ?_ GE231.out) | exact HB.out)))); have n1_ := Aside0.mk (blk_below (g := gb231) (o := .cells #[.int .i64 a0_0, .slice A0_1 l0_1.length c0_1] 24 (0, 0)) (by (with_reducible repeat (first | refine blk_drewN ?_ _ | refine blk_drew ?_ | refine blk_alloc ?_ _)); exact BK231.out) hb); have n2_ := Aside0.mk (below_step (by repeat (first | (with_reducible first | exact HB.out | apply below_alloc | apply pw_below_drewN | apply below_drew1 | refine below_set ?_ GE231.out) | exact HB.out)) hb); clear BK231; clear HB; have HO236 := n0_; have BK231 := n1_; have HB := n2_; clear n0_ n1_ n2_; (try clear hb); (try clear hb2); (try clear hk); (try clear hi); (try clear ho0); obtain ⟨Ao17, co17, eo17⟩ := Kd.R_slice HO236.out; subst eo17) | ((with_reducible refine gate_callee (f := 18) rfl ?_); refine goesL_ (some 17) rfl rfl Try.func18 (by kernel_rfl) rfl #[.agg #[.int .i64 t233, .slice Ao17 t234.length co17]] rfl (by (try simp only [List.map_toArray, List.map_cons, List.map_nil]); first | done | rfl | (simp only [List.length_drop, List.length_take]; rfl)) ?_; (with_reducible refine (spec_WholeText.calls k t233 _ _ t234 t237 t238 _ ?side1 ?side2 A8.out).mono ?_); (case side1 => repeat (first | exact (Kd.R_reads' HO236.out).2.2 | (with_reducible refine Kd.C_alloc ?_ _) | (with_reducible refine Kd.C_drewN ?_ _) | (with_reducible refine Kd.C_drew ?_))); (case side2 => exact (Kd.R_reads' HO236.out).2.1); rintro e w18 ⟨rfl, hb⟩; refine ⟨_, rfl, ?_⟩; have n0_ := Aside0.mk (Kd.R_below (by (with_reducible repeat (first | apply Kd.R_alloc | apply Kd.R_drewN | apply Kd.R_drew)); exact HO236.out) hb); have n1_ := Aside0.mk (blk_below (g := gb231) (o := .cells #[.int .i64 a0_0, .slice A0_1 l0_1.length c0_1] 24 (0, 0)) (by (with_reducible repeat (first | refine blk_drewN ?_ _ | refine blk_drew ?_ | refine blk_alloc ?_ _)); exact BK231.out) hb); have n2_ := Aside0.mk (below_step (by repeat (first | (with_reducible first | exact HB.out | apply below_alloc | apply pw_below_drewN | apply below_drew1 | refine below_set ?_ GE231.out) | exact HB.out)) hb); clear HO236; clear BK231; clear HB; have HO236 := n0_; have BK231 := n1_; have HB := n2_; clear n0_ n1_ n2_; (try clear hb); (try clear hb2); (try clear hk); (try clear hi); have hcz19_0 : w18.cell? ⟨gb231, 0, none⟩ = some (.int .i64 a0_0) := (blk_cell BK231.out 0).trans rfl; have hcz19_1 : w18.cell? ⟨gb231, 1, none⟩ = some (.slice A0_1 l0_1.length c0_1) := (blk_cell BK231.out 1).trans rfl; have hfz19_0 := blk_frozen BK231.out 0; have hfz19_1 := blk_frozen BK231.out 1) | ((with_reducible refine gate_callee (f := 11) rfl ?_); refine goesL_ (some 21) rfl rfl Try.func11 (by kernel_rfl) rfl #[.agg #[.int .i64 a0_0, .slice A0_1 l0_1.length c0_1]] rfl (by (try simp only [List.map_toArray, List.map_cons, List.map_nil]); first | done | rfl | (simp only [List.length_drop, List.length_take]; rfl)) ?_; (with_reducible refine (laws_toWhole.calls k a0_0 _ _ l0_1 t239 t240 _ ?side1 ?side2 A9.out).mono ?_); (case side1 => repeat (first | exact (Kd.C_below HR0_1.out HB.out) | (with_reducible refine Kd.C_alloc ?_ _) | (with_reducible refine Kd.C_drewN ?_ _) | (with_reducible refine Kd.C_drew ?_))); (case side2 => exact HC0_1.out); rintro e w20 ⟨v241, rfl, ho0, hb⟩; refine ⟨_, rfl, ?_⟩; have n0_ := Aside0.mk (Kd.R_elder' (by (with_reducible repeat (first | apply Kd.R_alloc | apply Kd.R_drewN | apply Kd.R_drew)); exact HO236.out) (Kd.R_base ho0) hb); have n1_ := Aside0.mk (Kd.R_lower (Kd.R_new' ho0 (Kd.R_lt (by (with_reducible repeat (first | apply Kd.R_alloc | apply Kd.R_drewN | apply Kd.R_drew)); exact HO236.out))) (below_size (by repeat (first | (with_reducible first | exact HB.out | apply below_alloc | apply pw_below_drewN | apply below_drew1 | refine below_set ?_ GE231.out) | exact HB.out)))); have n2_ := Aside0.mk (blk_below (g := gb231) (o := .cells #[.int .i64 a0_0, .slice A0_1 l0_1.length c0_1] 24 (0, 0)) (by (with_reducible repeat (first | refine blk_drewN ?_ _ | refine blk_drew ?_ | refine blk_alloc ?_ _)); exact BK231.out) hb); have n3_ := Aside0.mk (below_step (by repeat (first | (with_reducible first | exact HB.out | apply below_alloc | apply pw_below_drewN | apply below_drew1 | refine below_set ?_ GE231.out) | exact HB.out)) hb); clear HO236; clear BK231; clear HB; have HO236 := n0_; have HO242 := n1_; have BK231 := n2_; have HB := n3_; clear n0_ n1_ n2_ n3_; (try clear hb); (try clear hb2); (try clear hk); (try clear hi); (try clear ho0)) | ((with_reducible refine gate_dst (N := 6) rfl ?_); refine box_event ?hg (N := 6) ?hd (cs := #[.int .i64 0, .slice none 0 0]) (t := 26) ?hr ?_; (case hd => rfl); (case hg => rfl); (case hr => first | (go_simp; done) | (go_simp; rfl)); intro gb243 hg w21 hbox hb; have n0_ := Aside0.mk (Kd.R_below (by (with_reducible repeat (first | apply Kd.R_alloc | apply Kd.R_drewN | apply Kd.R_drew)); exact HO236.out) hb); have n1_ := Aside0.mk (Kd.R_below (by (with_reducible repeat (first | apply Kd.R_alloc | apply Kd.R_drewN | apply Kd.R_drew)); exact HO242.out) hb); have n2_ := Aside0.mk (blk_below (g := gb231) (o := .cells #[.int .i64 a0_0, .slice A0_1 l0_1.length c0_1] 24 (0, 0)) (by (with_reducible repeat (first | refine blk_drewN ?_ _ | refine blk_drew ?_ | refine blk_alloc ?_ _)); exact BK231.out) hb); have n3_ := Aside0.mk (below_step (by repeat (first | (with_reducible first | exact HB.out | apply below_alloc | apply pw_below_drewN | apply below_drew1 | refine below_set ?_ GE231.out) | exact HB.out)) hb); have n4_ := Aside0.mk (hbox); have n5_ := Aside0.mk ((by rw [hg]; exact (below_size (by repeat (first | (with_reducible first | exact HB.out | apply below_alloc | apply pw_below_drewN | apply below_drew1 | refine below_set ?_ GE231.out) | exact HB.out))) : w.heap.size ≤ gb243)); have n6_ := Aside0.mk ((by rw [hg]; exact (below_size (by repeat (first | (with_reducible first | exact HB.out | apply below_alloc | apply pw_below_drewN | apply below_drew1 | refine below_set ?_ GE231.out) | exact HB.out))) : w.heap.size ≤ gb243)); have n7_ := Aside0.mk ((by rw [hg]; exact Nat.ne_of_lt (blk_lt (g := gb231) (o := .cells #[.int .i64 a0_0, .slice A0_1 l0_1.length c0_1] 24 (0, 0)) (by (with_reducible repeat (first | refine blk_drewN ?_ _ | refine blk_drew ?_ | refine blk_alloc ?_ _)); exact BK231.out)) : gb231 ≠ gb243)); have n8_ := Aside0.mk ((by rw [hg]; exact Nat.ne_of_gt (blk_lt (g := gb231) (o := .cells #[.int .i64 a0_0, .slice A0_1 l0_1.length c0_1] 24 (0, 0)) (by (with_reducible repeat (first | refine blk_drewN ?_ _ | refine blk_drew ?_ | refine blk_alloc ?_ _)); exact BK231.out)) : gb243 ≠ gb231)); clear HO236; clear HO242; clear BK231; clear HB; have HO236 := n0_; have HO242 := n1_; have BK231 := n2_; have HB := n3_; have BK243 := n4_; have GW243 := n5_; have GE243 := n6_; have NB231_243 := n7_; have NB243_231 := n8_; clear n0_ n1_ n2_ n3_ n4_ n5_ n6_ n7_ n8_; clear hb hbox hg; have hnb22 := NB243_231.out; have hnc22 := NB231_243.out; have hcz23_0 : w21.cell? ⟨gb243, 0, none⟩ = some (.int .i64 0) := (blk_cell BK243.out 0).trans rfl; have hcz23_1 : w21.cell? ⟨gb243, 1, none⟩ = some (.slice none 0 0) := (blk_cell BK243.out 1).trans rfl; have hfz23_0 := blk_frozen BK243.out 0; have hfz23_1 := blk_frozen BK243.out 1; obtain ⟨Ao24, co24, eo24⟩ := Kd.R_slice HO242.out; subst eo24) | ((with_reducible refine gate_callee (f := 19) rfl ?_); refine goesL_ (some 24) rfl rfl Try.func19 (by kernel_rfl) rfl #[.agg #[.int .i64 t239, .slice Ao24 t240.length co24]] rfl (by (try simp only [List.map_toArray, List.map_cons, List.map_nil]); first | done | rfl | (simp only [List.length_drop, List.length_take]; rfl)) ?_; (with_reducible refine (impl_WholeText.calls t239 _ _ t240 t244 t245 _ ?side1 ?side2 A10.out).mono ?_); (case side1 => refine (Kd.R_reads' (e := 2) (base := w.heap.size) (ok := fun k_ => (True ∧ some k_ ≠ (.slice Ao17 t234.length co17 : Value).ownBlock)) (n := t240.length) (c := co24) ?_).2.2; exact (by (with_reducible repeat (first | apply Kd.R_alloc | apply Kd.R_drewN | apply Kd.R_drew)); exact (Kd.R_mono (Kd.R_far (p := ⟨gb243, 1, none⟩) (Kd.R_far (p := ⟨gb243, 0, none⟩) (Kd.R_types HO242.out BK243.out (by decide)) (fun _ hk => hk.2) (.int .i64 t239)) (fun _ hk => hk.2) (.slice Ao24 t240.length co24)) (fun _ h_ => h_.1)))); (case side2 => exact (Kd.R_reads' HO242.out).2.1); rintro e w25 ⟨rfl, hb⟩; refine ⟨_, rfl, ?_⟩; have n0_ := Aside0.mk (Kd.R_below (by (with_reducible repeat (first | apply Kd.R_alloc | apply Kd.R_drewN | apply Kd.R_drew)); exact (Kd.R_mono (Kd.R_far (p := ⟨gb243, 1, none⟩) (Kd.R_far (p := ⟨gb243, 0, none⟩) (Kd.R_types HO236.out BK243.out (by decide)) (fun _ hk => hk.2) (.int .i64 t239)) (fun _ hk => hk.2) (.slice Ao24 t240.length co24)) (fun _ h_ => h_.1))) hb); have n1_ := Aside0.mk (Kd.R_below (by (with_reducible repeat (first | apply Kd.R_alloc | apply Kd.R_drewN | apply Kd.R_drew)); exact (Kd.R_mono (Kd.R_far (p := ⟨gb243, 1, none⟩) (Kd.R_far (p := ⟨gb243, 0, none⟩) (Kd.R_types HO242.out BK243.out (by decide)) (fun _ hk => hk.2) (.int .i64 t239)) (fun _ hk => hk.2) (.slice Ao24 t240.length co24)) (fun _ h_ => h_.1))) hb); have n2_ := Aside0.mk (blk_below (g := gb231) (o := .cells #[.int .i64 a0_0, .slice A0_1 l0_1.length c0_1] 24 (0, 0)) (by (with_reducible repeat (first | refine blk_drewN ?_ _ | refine blk_drew ?_ | refine blk_alloc ?_ _)); refine blk_far ?_ NB231_243.out _; (with_reducible repeat (first | refine blk_drewN ?_ _ | refine blk_drew ?_ | refine blk_alloc ?_ _)); refine blk_far ?_ NB231_243.out _; (with_reducible repeat (first | refine blk_drewN ?_ _ | refine blk_drew ?_ | refine blk_alloc ?_ _)); exact BK231.out) hb); have n3_ := Aside0.mk (blk_below (g := gb243) (o := .cells #[.int .i64 t239, .slice Ao24 t240.length co24] 26 (0, 0)) (by (with_reducible repeat (first | refine blk_drewN ?_ _ | refine blk_drew ?_ | refine blk_alloc ?_ _)); refine blk_put (cs := #[.int .i64 t239, .slice none 0 0]) ?_ 1 _ rfl; (with_reducible repeat (first | refine blk_drewN ?_ _ | refine blk_drew ?_ | refine blk_alloc ?_ _)); refine blk_put (cs := #[.int .i64 0, .slice none 0 0]) ?_ 0 _ rfl; (with_reducible repeat (first | refine blk_drewN ?_ _ | refine blk_drew ?_ | refine blk_alloc ?_ _)); exact BK243.out) hb); have n4_ := Aside0.mk (below_step (by repeat (first | (with_reducible first | exact HB.out | apply below_alloc | apply pw_below_drewN | apply below_drew1 | refine below_set ?_ GE231.out | refine below_set ?_ GE243.out) | exact HB.out)) hb); clear HO236; clear HO242; clear BK231; clear BK243; clear HB; have HO236 := n0_; have HO242 := n1_; have BK231 := n2_; have BK243 := n3_; have HB := n4_; clear n0_ n1_ n2_ n3_ n4_; (try clear hb); (try clear hb2); (try clear hk); (try clear hi)))
    (try simp only [Act.put, List.setIfInBounds_toArray, List.set_cons_zero, List.set_cons_succ])
    go_cut [34] (fun v34 wc => ∃ (kq : Nat) (x34_10 : Bool), v34 = .bool x34_10 ∧ Aside0 (laws_FnExactWholeText.j0 kq x34_10 a0_0 l0_1 t239 t240 = some r) ∧ Aside0 (kq ≤ k) ∧ Aside0 (Kd.R (Kd.int .i64) 2 wc w.heap.size (fun _ => True) (.slice Ao24 t240.length co24) t240) ∧ Aside0 (wc.heap[gb231]? = some (.cells #[.int .i64 a0_0, (.slice A0_1 l0_1.length c0_1)] 24 (0, 0))) ∧ Aside0 (wc.heap[gb243]? = some (.cells #[.int .i64 t239, (.slice Ao24 t240.length co24)] 26 (0, 0))) ∧ Aside0 (Below w.heap.size w wc))
    case first =>
      have H := HC11.out
      clear HC11
      by_cases c26 : t244.toList = t237.toList
      · rw [if_pos c26] at H
        have c26b0 : (t244.toList == t237.toList) = true := beq_iff_eq.mpr c26
        have c26b1 : (t244.toList != t237.toList) = false := bne_eq_false_iff_eq.mpr c26
        clear c26
        (first | rw [c26b0] | (simp only [i64_w, i32_w]; rw [c26b0]) | skip)
        have H' := Aside0.mk H
        clear H
        go_wp2
        go_meet
        case rel => exact ⟨_, ((t245 != t238)), (by first | rfl | (simp; done) | (simp [*]; done)), H', ⟨by first | omega | exact Nat.le_refl _⟩, ⟨by (with_reducible repeat (first | apply Kd.R_alloc | apply Kd.R_drewN | apply Kd.R_drew)); exact Kd.R_mono HO242.out (fun _ hk => trivial)⟩, ⟨by (with_reducible repeat (first | refine blk_drewN ?_ _ | refine blk_drew ?_ | refine blk_alloc ?_ _)); exact BK231.out⟩, ⟨by (with_reducible repeat (first | refine blk_drewN ?_ _ | refine blk_drew ?_ | refine blk_alloc ?_ _)); exact BK243.out⟩, ⟨by repeat (first | (with_reducible first | exact HB.out | apply below_alloc | apply pw_below_drewN | apply below_drew1 | refine below_set ?_ GE231.out | refine below_set ?_ GE243.out) | exact HB.out)⟩⟩
      · rw [if_neg c26] at H
        have c26b0 : (t244.toList == t237.toList) = false := beq_eq_false_iff_ne.mpr c26
        have c26b1 : (t244.toList != t237.toList) = true := bne_iff_ne.mpr c26
        (first | rw [c26b0] | (simp only [i64_w, i32_w]; rw [c26b0]) | skip)
        have H' := Aside0.mk H
        clear H
        go_wp2
        go_meet
        case rel => exact ⟨_, (true), (by first | rfl | (simp; done) | (simp [*]; done)), H', ⟨by first | omega | exact Nat.le_refl _⟩, ⟨by (with_reducible repeat (first | apply Kd.R_alloc | apply Kd.R_drewN | apply Kd.R_drew)); exact Kd.R_mono HO242.out (fun _ hk => trivial)⟩, ⟨by (with_reducible repeat (first | refine blk_drewN ?_ _ | refine blk_drew ?_ | refine blk_alloc ?_ _)); exact BK231.out⟩, ⟨by (with_reducible repeat (first | refine blk_drewN ?_ _ | refine blk_drew ?_ | refine blk_alloc ?_ _)); exact BK243.out⟩, ⟨by repeat (first | (with_reducible first | exact HB.out | apply below_alloc | apply pw_below_drewN | apply below_drew1 | refine below_set ?_ GE231.out | refine below_set ?_ GE243.out) | exact HB.out)⟩⟩
    case rest =>
      clear HC11
      try clear c1
      try clear c2
      try clear p2
      try clear c3
      try clear c3b0
      try clear c5
      try clear c9
      try clear c11
      try clear c18
      try clear c19
      try clear c22
      try clear c26
      try clear c26b0
      try clear c26b1
      try clear hcz13_0
      try clear hcz13_1
      try clear hcz15_0
      try clear hcz15_1
      try clear hcz19_0
      try clear hcz19_1
      try clear hcz23_0
      try clear hcz23_1
      try clear hcz5_0
      try clear hcz5_1
      try clear hfz13_0
      try clear hfz13_1
      try clear hfz15_0
      try clear hfz15_1
      try clear hfz19_0
      try clear hfz19_1
      try clear hfz23_0
      try clear hfz23_1
      try clear hfz5_0
      try clear hfz5_1
      obtain ⟨kq, x34_10, rfl, HA, HJ10, HO_244001, BK231, BK243, HB⟩ := hcut
      cases kq with
      | zero => exact absurd HA.out (by simp [laws_FnExactWholeText.j0])
      | succ kj10 =>
        have H := HA.out
        clear HA
        simp only [laws_FnExactWholeText.j0] at H
        by_cases c27 : x34_10 = true
        · subst c27
          have H1 : (some false) = some r := by rw [if_pos rfl] at H; exact H
          clear H
          have H := H1
          clear H1
          obtain rfl := Option.some.inj H
          go_wp2
          go_ret
          exact ⟨by first | rfl | (simp [errW_none, errW_some] <;> rfl) | (simp [*, errW_none, errW_some] <;> rfl), by repeat (first | (with_reducible first | exact HB.out | apply below_alloc | apply pw_below_drewN | apply below_drew1 | refine below_set ?_ GE231.out | refine below_set ?_ GE243.out) | exact HB.out)⟩
        · replace c27 := Bool.eq_false_iff.mpr c27
          subst c27
          have H1 : ((laws_toWhole.f kj10 a0_0 l0_1).bind fun bt246 => ((laws_eqWhole.f kj10 t239 t240 bt246.1 bt246.2).bind fun t250 => (if t250 = true then (some true) else (some false)))) = some r := by rw [if_neg (show ¬ (false = true) by decide)] at H; exact H
          clear H
          have H := H1
          clear H1
          replace H := Option.bind_eq_some_iff.mp H
          obtain ⟨⟨t246, t247⟩, A280, H⟩ := H
          replace H : ((laws_eqWhole.f kj10 t239 t240 t246 t247).bind fun t250 => (if t250 = true then (some true) else (some false))) = some r := H
          have A28 := Aside0.mk A280
          clear A280
          replace H := Option.bind_eq_some_iff.mp H
          obtain ⟨t250, A290, H⟩ := H
          replace H : (if t250 = true then (some true) else (some false)) = some r := H
          have A29 := Aside0.mk A290
          clear A290
          by_cases c30 : t250 = true
          · subst c30
            have H1 : (some true) = some r := by rw [if_pos rfl] at H; exact H
            clear H
            have H := H1
            clear H1
            obtain rfl := Option.some.inj H
            try go_wp2
            have n0_ := Aside0.mk (Kd.R_drew HO_244001.out)
            have n1_ := Aside0.mk (blk_drew BK231.out)
            have n2_ := Aside0.mk (blk_drew BK243.out)
            have n3_ := Aside0.mk (below_drew1 HB.out)
            clear HO_244001
            clear BK231
            clear BK243
            clear HB
            have HO_244001 := n0_
            have BK231 := n1_
            have BK243 := n2_
            have HB := n3_
            clear n0_ n1_ n2_ n3_
            refine start_ (n := 5) (S := fun w' => w'.cell? ⟨gb243, 0, none⟩ = some (.int .i64 t239) ∧ w'.cell? ⟨gb243, 1, none⟩ = some (.slice Ao24 t240.length co24) ∧ w'.cell? ⟨gb231, 0, none⟩ = some (.int .i64 a0_0) ∧ w'.cell? ⟨gb231, 1, none⟩ = some (.slice A0_1 l0_1.length c0_1)) (ds := []) #[false, false, false, false, false] (by kernel_rfl) rfl rfl ⟨(blk_cell BK243.out 0).trans rfl, (blk_cell BK243.out 1).trans rfl, (blk_cell BK231.out 0).trans rfl, (blk_cell BK231.out 1).trans rfl⟩ (fun hHeld => ?_)
            generalize wc.drew = w31 at HO_244001 BK231 BK243 HB hHeld ⊢
            refine take_ (i := 0) (N := some 35) (v := ?_) (a' := ?_) #[true, false, false, false, false] rfl rfl (by kernel_rfl) (fun _ _ _ h => h) (Or.inl ⟨by rfl, ?_⟩) hHeld ?_ ?_
            rotate_left
            · rintro w' ⟨s0, s1, s2, s3⟩
              go_simp
              with_reducible rfl
            rotate_left
            · simp only [Act.put, List.setIfInBounds_toArray, List.set_cons_zero, List.set_cons_succ, i64_w, i32_w]
              rfl
            refine take_ (i := 1) (N := some 36) (v := ?_) (a' := ?_) #[true, true, false, false, false] rfl rfl (by kernel_rfl) (fun _ _ _ h => h) (Or.inl ⟨by rfl, ?_⟩) hHeld ?_ ?_
            rotate_left
            · rintro w' ⟨s0, s1, s2, s3⟩
              go_simp
              with_reducible rfl
            rotate_left
            · simp only [Act.put, List.setIfInBounds_toArray, List.set_cons_zero, List.set_cons_succ, i64_w, i32_w]
              rfl
            refine one_ (i := 2) (N := some 37) #[true, true, true, false, false] rfl rfl (by kernel_rfl) (by decide) (fun K hK => ?_)
            refine goes_ Try.func11 (by kernel_rfl) rfl #[.agg #[.int .i64 a0_0, .slice A0_1 l0_1.length c0_1]] (by rfl) rfl rfl (by (try simp only [List.map_toArray, List.map_cons, List.map_nil]); first | done | rfl | (simp only [List.length_drop, List.length_take]; rfl)) ?_
            with_reducible refine (laws_toWhole.calls kj10 a0_0 _ _ l0_1 t246 t247 _ ?side1 ?side2 A28.out).mono ?_
            (case side1 => repeat (first | exact (Kd.C_below HR0_1.out HB.out) | (with_reducible refine Kd.C_alloc ?_ _) | (with_reducible refine Kd.C_drewN ?_ _) | (with_reducible refine Kd.C_drew ?_)))
            (case side2 => exact HC0_1.out)
            rintro e w32 ⟨v248, rfl, ho0, hb⟩
            refine ⟨_, rfl, ?_⟩
            have n0_ := Aside0.mk (Kd.R_elder' (by (with_reducible repeat (first | apply Kd.R_alloc | apply Kd.R_drewN | apply Kd.R_drew)); exact HO_244001.out) (Kd.R_base ho0) hb)
            have n1_ := Aside0.mk (Kd.R_lower (Kd.R_new' ho0 (Kd.R_lt (by (with_reducible repeat (first | apply Kd.R_alloc | apply Kd.R_drewN | apply Kd.R_drew)); exact HO_244001.out))) (below_size (by repeat (first | (with_reducible first | exact HB.out | apply below_alloc | apply pw_below_drewN | apply below_drew1 | refine below_set ?_ GE231.out | refine below_set ?_ GE243.out) | exact HB.out))))
            have n2_ := Aside0.mk (blk_below (g := gb231) (o := .cells #[.int .i64 a0_0, .slice A0_1 l0_1.length c0_1] 24 (0, 0)) (by (with_reducible repeat (first | refine blk_drewN ?_ _ | refine blk_drew ?_ | refine blk_alloc ?_ _)); exact BK231.out) hb)
            have n3_ := Aside0.mk (blk_below (g := gb243) (o := .cells #[.int .i64 t239, .slice Ao24 t240.length co24] 26 (0, 0)) (by (with_reducible repeat (first | refine blk_drewN ?_ _ | refine blk_drew ?_ | refine blk_alloc ?_ _)); exact BK243.out) hb)
            have n4_ := Aside0.mk (below_step (by repeat (first | (with_reducible first | exact HB.out | apply below_alloc | apply pw_below_drewN | apply below_drew1 | refine below_set ?_ GE231.out | refine below_set ?_ GE243.out) | exact HB.out)) hb)
            clear HO_244001
            clear BK231
            clear BK243
            clear HB
            have HO_244001 := n0_
            have HO249 := n1_
            have BK231 := n2_
            have BK243 := n3_
            have HB := n4_
            clear n0_ n1_ n2_ n3_ n4_
            (try clear hb)
            (try clear hb2)
            (try clear hk)
            (try clear hi)
            (try clear ho0)
            obtain ⟨Ao33, co33, eo33⟩ := Kd.R_slice HO249.out
            (first | subst eo33 | (injection eo33 with f1_ f2_ f3_; have f4_ := f1_.symm; have f5_ := f3_.symm; clear f1_ f2_ f3_; subst f4_; subst f5_))
            refine hK.out _ _ ⟨(blk_cell BK243.out 0).trans rfl, (blk_cell BK243.out 1).trans rfl, (blk_cell BK231.out 0).trans rfl, (blk_cell BK231.out 1).trans rfl⟩ (fun hHeld => ?_)
            clear hK K
            refine norm_ (a' := ?_) ?_ ?_
            rotate_left
            · show Act.put _ (some 37) _ = _
              simp only [Act.put, List.setIfInBounds_toArray, List.set_cons_zero, List.set_cons_succ, i64_w, i32_w]
              rfl
            refine one_ (i := 3) (N := some 38) #[true, true, true, true, false] rfl rfl (by kernel_rfl) (by decide) (fun K hK => ?_)
            refine goes_ Try.func13 (by kernel_rfl) rfl #[.agg #[.int .i64 t239, .slice Ao24 t240.length co24], .agg #[.int .i64 t246, .slice Ao33 t247.length co33]] (by rfl) rfl rfl (by (try simp only [List.map_toArray, List.map_cons, List.map_nil]); first | done | rfl | (simp only [List.length_drop, List.length_take]; rfl)) ?_
            with_reducible refine (laws_eqWhole.calls kj10 t239 _ _ t240 t246 _ _ t247 true _ ?side1 ?side2 ?side3 ?side4 A29.out).mono ?_
            (case side1 => repeat (first | exact (Kd.R_reads' HO_244001.out).2.2 | (with_reducible refine Kd.C_alloc ?_ _) | (with_reducible refine Kd.C_drewN ?_ _) | (with_reducible refine Kd.C_drew ?_)))
            (case side2 => exact (Kd.R_reads' HO_244001.out).2.1)
            (case side3 => repeat (first | exact (Kd.R_reads' HO249.out).2.2 | (with_reducible refine Kd.C_alloc ?_ _) | (with_reducible refine Kd.C_drewN ?_ _) | (with_reducible refine Kd.C_drew ?_)))
            (case side4 => exact (Kd.R_reads' HO249.out).2.1)
            rintro e w34 ⟨rfl, hb⟩
            refine ⟨_, rfl, ?_⟩
            have n0_ := Aside0.mk (Kd.R_below (by (with_reducible repeat (first | apply Kd.R_alloc | apply Kd.R_drewN | apply Kd.R_drew)); exact HO_244001.out) hb)
            have n1_ := Aside0.mk (Kd.R_below (by (with_reducible repeat (first | apply Kd.R_alloc | apply Kd.R_drewN | apply Kd.R_drew)); exact HO249.out) hb)
            have n2_ := Aside0.mk (blk_below (g := gb231) (o := .cells #[.int .i64 a0_0, .slice A0_1 l0_1.length c0_1] 24 (0, 0)) (by (with_reducible repeat (first | refine blk_drewN ?_ _ | refine blk_drew ?_ | refine blk_alloc ?_ _)); exact BK231.out) hb)
            have n3_ := Aside0.mk (blk_below (g := gb243) (o := .cells #[.int .i64 t239, .slice Ao24 t240.length co24] 26 (0, 0)) (by (with_reducible repeat (first | refine blk_drewN ?_ _ | refine blk_drew ?_ | refine blk_alloc ?_ _)); exact BK243.out) hb)
            have n4_ := Aside0.mk (below_step (by repeat (first | (with_reducible first | exact HB.out | apply below_alloc | apply pw_below_drewN | apply below_drew1 | refine below_set ?_ GE231.out | refine below_set ?_ GE243.out) | exact HB.out)) hb)
            clear HO_244001
            clear HO249
            clear BK231
            clear BK243
            clear HB
            have HO_244001 := n0_
            have HO249 := n1_
            have BK231 := n2_
            have BK243 := n3_
            have HB := n4_
            clear n0_ n1_ n2_ n3_ n4_
            (try clear hb)
            (try clear hb2)
            (try clear hk)
            (try clear hi)
            refine hK.out _ _ ⟨(blk_cell BK243.out 0).trans rfl, (blk_cell BK243.out 1).trans rfl, (blk_cell BK231.out 0).trans rfl, (blk_cell BK231.out 1).trans rfl⟩ (fun hHeld => ?_)
            clear hK K
            refine norm_ (a' := ?_) ?_ ?_
            rotate_left
            · show Act.put _ (some 38) _ = _
              simp only [Act.put, List.setIfInBounds_toArray, List.set_cons_zero, List.set_cons_succ, i64_w, i32_w]
              rfl
            refine pure_ (i := 4) (N := some 39) (v := ?_) (a' := ?_) #[true, true, true, true, true] rfl rfl (by kernel_rfl) (fun _ _ _ h => h) (Or.inl ⟨by rfl, ?_⟩) ?_ ?_
            rotate_left
            · intro w'
              go_simp
              with_reducible rfl
            rotate_left
            · simp only [Act.put, List.setIfInBounds_toArray, List.set_cons_zero, List.set_cons_succ, i64_w, i32_w]
              rfl
            refine done_ (by kernel_rfl) ?_
            try go_wp2
            go_ret
            exact ⟨by first | rfl | (simp [errW_none, errW_some] <;> rfl) | (simp [*, errW_none, errW_some] <;> rfl), by repeat (first | (with_reducible first | exact HB.out | apply below_alloc | apply pw_below_drewN | apply below_drew1 | refine below_set ?_ GE231.out | refine below_set ?_ GE243.out) | exact HB.out)⟩
          · replace c30 := Bool.eq_false_iff.mpr c30
            subst c30
            have H1 : (some false) = some r := by rw [if_neg (show ¬ (false = true) by decide)] at H; exact H
            clear H
            have H := H1
            clear H1
            obtain rfl := Option.some.inj H
            try go_wp2
            have n0_ := Aside0.mk (Kd.R_drew HO_244001.out)
            have n1_ := Aside0.mk (blk_drew BK231.out)
            have n2_ := Aside0.mk (blk_drew BK243.out)
            have n3_ := Aside0.mk (below_drew1 HB.out)
            clear HO_244001
            clear BK231
            clear BK243
            clear HB
            have HO_244001 := n0_
            have BK231 := n1_
            have BK243 := n2_
            have HB := n3_
            clear n0_ n1_ n2_ n3_
            refine start_ (n := 5) (S := fun w' => w'.cell? ⟨gb243, 0, none⟩ = some (.int .i64 t239) ∧ w'.cell? ⟨gb243, 1, none⟩ = some (.slice Ao24 t240.length co24) ∧ w'.cell? ⟨gb231, 0, none⟩ = some (.int .i64 a0_0) ∧ w'.cell? ⟨gb231, 1, none⟩ = some (.slice A0_1 l0_1.length c0_1)) (ds := []) #[false, false, false, false, false] (by kernel_rfl) rfl rfl ⟨(blk_cell BK243.out 0).trans rfl, (blk_cell BK243.out 1).trans rfl, (blk_cell BK231.out 0).trans rfl, (blk_cell BK231.out 1).trans rfl⟩ (fun hHeld => ?_)
            generalize wc.drew = w35 at HO_244001 BK231 BK243 HB hHeld ⊢
            refine take_ (i := 0) (N := some 35) (v := ?_) (a' := ?_) #[true, false, false, false, false] rfl rfl (by kernel_rfl) (fun _ _ _ h => h) (Or.inl ⟨by rfl, ?_⟩) hHeld ?_ ?_
            rotate_left
            · rintro w' ⟨s0, s1, s2, s3⟩
              go_simp
              with_reducible rfl
            rotate_left
            · simp only [Act.put, List.setIfInBounds_toArray, List.set_cons_zero, List.set_cons_succ, i64_w, i32_w]
              rfl
            refine take_ (i := 1) (N := some 36) (v := ?_) (a' := ?_) #[true, true, false, false, false] rfl rfl (by kernel_rfl) (fun _ _ _ h => h) (Or.inl ⟨by rfl, ?_⟩) hHeld ?_ ?_
            rotate_left
            · rintro w' ⟨s0, s1, s2, s3⟩
              go_simp
              with_reducible rfl
            rotate_left
            · simp only [Act.put, List.setIfInBounds_toArray, List.set_cons_zero, List.set_cons_succ, i64_w, i32_w]
              rfl
            refine one_ (i := 2) (N := some 37) #[true, true, true, false, false] rfl rfl (by kernel_rfl) (by decide) (fun K hK => ?_)
            refine goes_ Try.func11 (by kernel_rfl) rfl #[.agg #[.int .i64 a0_0, .slice A0_1 l0_1.length c0_1]] (by rfl) rfl rfl (by (try simp only [List.map_toArray, List.map_cons, List.map_nil]); first | done | rfl | (simp only [List.length_drop, List.length_take]; rfl)) ?_
            with_reducible refine (laws_toWhole.calls kj10 a0_0 _ _ l0_1 t246 t247 _ ?side1 ?side2 A28.out).mono ?_
            (case side1 => repeat (first | exact (Kd.C_below HR0_1.out HB.out) | (with_reducible refine Kd.C_alloc ?_ _) | (with_reducible refine Kd.C_drewN ?_ _) | (with_reducible refine Kd.C_drew ?_)))
            (case side2 => exact HC0_1.out)
            rintro e w36 ⟨v248, rfl, ho0, hb⟩
            refine ⟨_, rfl, ?_⟩
            have n0_ := Aside0.mk (Kd.R_elder' (by (with_reducible repeat (first | apply Kd.R_alloc | apply Kd.R_drewN | apply Kd.R_drew)); exact HO_244001.out) (Kd.R_base ho0) hb)
            have n1_ := Aside0.mk (Kd.R_lower (Kd.R_new' ho0 (Kd.R_lt (by (with_reducible repeat (first | apply Kd.R_alloc | apply Kd.R_drewN | apply Kd.R_drew)); exact HO_244001.out))) (below_size (by repeat (first | (with_reducible first | exact HB.out | apply below_alloc | apply pw_below_drewN | apply below_drew1 | refine below_set ?_ GE231.out | refine below_set ?_ GE243.out) | exact HB.out))))
            have n2_ := Aside0.mk (blk_below (g := gb231) (o := .cells #[.int .i64 a0_0, .slice A0_1 l0_1.length c0_1] 24 (0, 0)) (by (with_reducible repeat (first | refine blk_drewN ?_ _ | refine blk_drew ?_ | refine blk_alloc ?_ _)); exact BK231.out) hb)
            have n3_ := Aside0.mk (blk_below (g := gb243) (o := .cells #[.int .i64 t239, .slice Ao24 t240.length co24] 26 (0, 0)) (by (with_reducible repeat (first | refine blk_drewN ?_ _ | refine blk_drew ?_ | refine blk_alloc ?_ _)); exact BK243.out) hb)
            have n4_ := Aside0.mk (below_step (by repeat (first | (with_reducible first | exact HB.out | apply below_alloc | apply pw_below_drewN | apply below_drew1 | refine below_set ?_ GE231.out | refine below_set ?_ GE243.out) | exact HB.out)) hb)
            clear HO_244001
            clear BK231
            clear BK243
            clear HB
            have HO_244001 := n0_
            have HO249 := n1_
            have BK231 := n2_
            have BK243 := n3_
            have HB := n4_
            clear n0_ n1_ n2_ n3_ n4_
            (try clear hb)
            (try clear hb2)
            (try clear hk)
            (try clear hi)
            (try clear ho0)
            obtain ⟨Ao37, co37, eo37⟩ := Kd.R_slice HO249.out
            (first | subst eo37 | (injection eo37 with f1_ f2_ f3_; have f4_ := f1_.symm; have f5_ := f3_.symm; clear f1_ f2_ f3_; subst f4_; subst f5_))
            refine hK.out _ _ ⟨(blk_cell BK243.out 0).trans rfl, (blk_cell BK243.out 1).trans rfl, (blk_cell BK231.out 0).trans rfl, (blk_cell BK231.out 1).trans rfl⟩ (fun hHeld => ?_)
            clear hK K
            refine norm_ (a' := ?_) ?_ ?_
            rotate_left
            · show Act.put _ (some 37) _ = _
              simp only [Act.put, List.setIfInBounds_toArray, List.set_cons_zero, List.set_cons_succ, i64_w, i32_w]
              rfl
            refine one_ (i := 3) (N := some 38) #[true, true, true, true, false] rfl rfl (by kernel_rfl) (by decide) (fun K hK => ?_)
            refine goes_ Try.func13 (by kernel_rfl) rfl #[.agg #[.int .i64 t239, .slice Ao24 t240.length co24], .agg #[.int .i64 t246, .slice Ao37 t247.length co37]] (by rfl) rfl rfl (by (try simp only [List.map_toArray, List.map_cons, List.map_nil]); first | done | rfl | (simp only [List.length_drop, List.length_take]; rfl)) ?_
            with_reducible refine (laws_eqWhole.calls kj10 t239 _ _ t240 t246 _ _ t247 false _ ?side1 ?side2 ?side3 ?side4 A29.out).mono ?_
            (case side1 => repeat (first | exact (Kd.R_reads' HO_244001.out).2.2 | (with_reducible refine Kd.C_alloc ?_ _) | (with_reducible refine Kd.C_drewN ?_ _) | (with_reducible refine Kd.C_drew ?_)))
            (case side2 => exact (Kd.R_reads' HO_244001.out).2.1)
            (case side3 => repeat (first | exact (Kd.R_reads' HO249.out).2.2 | (with_reducible refine Kd.C_alloc ?_ _) | (with_reducible refine Kd.C_drewN ?_ _) | (with_reducible refine Kd.C_drew ?_)))
            (case side4 => exact (Kd.R_reads' HO249.out).2.1)
            rintro e w38 ⟨rfl, hb⟩
            refine ⟨_, rfl, ?_⟩
            have n0_ := Aside0.mk (Kd.R_below (by (with_reducible repeat (first | apply Kd.R_alloc | apply Kd.R_drewN | apply Kd.R_drew)); exact HO_244001.out) hb)
            have n1_ := Aside0.mk (Kd.R_below (by (with_reducible repeat (first | apply Kd.R_alloc | apply Kd.R_drewN | apply Kd.R_drew)); exact HO249.out) hb)
            have n2_ := Aside0.mk (blk_below (g := gb231) (o := .cells #[.int .i64 a0_0, .slice A0_1 l0_1.length c0_1] 24 (0, 0)) (by (with_reducible repeat (first | refine blk_drewN ?_ _ | refine blk_drew ?_ | refine blk_alloc ?_ _)); exact BK231.out) hb)
            have n3_ := Aside0.mk (blk_below (g := gb243) (o := .cells #[.int .i64 t239, .slice Ao24 t240.length co24] 26 (0, 0)) (by (with_reducible repeat (first | refine blk_drewN ?_ _ | refine blk_drew ?_ | refine blk_alloc ?_ _)); exact BK243.out) hb)
            have n4_ := Aside0.mk (below_step (by repeat (first | (with_reducible first | exact HB.out | apply below_alloc | apply pw_below_drewN | apply below_drew1 | refine below_set ?_ GE231.out | refine below_set ?_ GE243.out) | exact HB.out)) hb)
            clear HO_244001
            clear HO249
            clear BK231
            clear BK243
            clear HB
            have HO_244001 := n0_
            have HO249 := n1_
            have BK231 := n2_
            have BK243 := n3_
            have HB := n4_
            clear n0_ n1_ n2_ n3_ n4_
            (try clear hb)
            (try clear hb2)
            (try clear hk)
            (try clear hi)
            refine hK.out _ _ ⟨(blk_cell BK243.out 0).trans rfl, (blk_cell BK243.out 1).trans rfl, (blk_cell BK231.out 0).trans rfl, (blk_cell BK231.out 1).trans rfl⟩ (fun hHeld => ?_)
            clear hK K
            refine norm_ (a' := ?_) ?_ ?_
            rotate_left
            · show Act.put _ (some 38) _ = _
              simp only [Act.put, List.setIfInBounds_toArray, List.set_cons_zero, List.set_cons_succ, i64_w, i32_w]
              rfl
            refine pure_ (i := 4) (N := some 39) (v := ?_) (a' := ?_) #[true, true, true, true, true] rfl rfl (by kernel_rfl) (fun _ _ _ h => h) (Or.inl ⟨by rfl, ?_⟩) ?_ ?_
            rotate_left
            · intro w'
              go_simp
              with_reducible rfl
            rotate_left
            · simp only [Act.put, List.setIfInBounds_toArray, List.set_cons_zero, List.set_cons_succ, i64_w, i32_w]
              rfl
            refine done_ (by kernel_rfl) ?_
            try go_wp2
            go_ret
            exact ⟨by first | rfl | (simp [errW_none, errW_some] <;> rfl) | (simp [*, errW_none, errW_some] <;> rfl), by repeat (first | (with_reducible first | exact HB.out | apply below_alloc | apply pw_below_drewN | apply below_drew1 | refine below_set ?_ GE231.out | refine below_set ?_ GE243.out) | exact HB.out)⟩
end Go.Proofs.Ytfinbmnjfnajiaa.PW
end
section
namespace Go.Proofs.Ytfinbmnjfnajiaa.Tt
open Go.RowKit Go.Proofs.YtfinbmnjfnajiaaW.PrintWords Go.Proofs.Ytfinbmnjfnajiaa.PW Go.Proofs.Ytfinbmnjfnajiaa.Pb Go.Proofs.Ytfinbmnjfnajiaa.Pc Go.Proofs.Ytfinbmnjfnajiaa.Pm Go.Proofs.Ytfinbmnjfnajiaa.Pw Go.Proofs.Ytfinbmnjfnajiaa.Ts Dg
set_option linter.unusedVariables false
set_option linter.unusedSimpArgs false
theorem son (a b : List Int) : strOfNums (a ++ b) = strOfNums a ++ strOfNums b := by
  apply ByteArray.ext
  rw [ByteArray.data_append]
  simp [strOfNums]
theorem e48 : (⟨#[48]⟩ : ByteArray) = strOfNums [48] := by decide
theorem e45 : (⟨#[45]⟩ : ByteArray) = strOfNums [45] := by decide
theorem e0 : (⟨#[]⟩ : ByteArray) = strOfNums [] := by decide
def dz (n : Nat) : List Int := if n = 0 then [48] else (ddig n).reverse
theorem dz_small {n : Nat} (h : n < 10) : dz n = [48 + (n : Int)] := by
  unfold dz
  split
  · next h0 => subst h0; rfl
  · next h0 => rw [ddig_pos h0, Nat.mod_eq_of_lt h, Nat.div_eq_of_lt h, ddig_zero]; rfl
theorem dz_big {n : Nat} (h : ¬ n < 10) : dz n = dz (n / 10) ++ [48 + ((n % 10 : Nat) : Int)] := by
  unfold dz
  rw [if_neg (by omega), if_neg (by omega), ddig_pos (by omega), List.reverse_cons]
theorem dz_len : ∀ (m n : Nat), n < 10 ^ (m + 1) → 1 ≤ (dz n).length ∧ (dz n).length ≤ m + 1 := by
  intro m
  induction m with
  | zero => intro n h; rw [dz_small (by simpa using h)]; simp
  | succ m ih =>
    intro n h
    by_cases h1 : n < 10
    · rw [dz_small h1]; simp
    · rw [dz_big h1]
      have := ih (n / 10) (by rw [Nat.pow_succ] at h; omega)
      rw [List.length_append, List.length_singleton]
      omega
def pad : Nat → Nat → List Int
  | 0, _ => []
  | m + 1, r => pad m (r / 10) ++ [48 + ((r % 10 : Nat) : Int)]
theorem pad_ddig : ∀ (m q r : Nat), q ≠ 0 → r < 10 ^ m → (ddig (q * 10 ^ m + r)).reverse = (ddig q).reverse ++ pad m r := by
  intro m
  induction m with
  | zero => intro q r hq hr; simp [pad] at *; subst hr; simp
  | succ m ih =>
    intro q r hq hr
    have e1 : q * 10 ^ (m + 1) + r = (q * 10 ^ m) * 10 + r := by rw [Nat.pow_succ, Nat.mul_assoc]
    have hp : 0 < q * 10 ^ m := Nat.mul_pos (Nat.pos_of_ne_zero hq) (Nat.pow_pos (by decide))
    rw [Nat.pow_succ] at hr
    rw [e1, ddig_pos (by omega), show (q * 10 ^ m * 10 + r) % 10 = r % 10 by omega, show (q * 10 ^ m * 10 + r) / 10 = q * 10 ^ m + r / 10 by omega, List.reverse_cons, ih q (r / 10) hq (by omega), List.append_assoc]
    rfl
theorem pad_dz : ∀ (m r : Nat), r < 10 ^ (m + 1) → pad (m + 1) r = List.replicate (m + 1 - (dz r).length) 48 ++ dz r := by
  intro m
  induction m with
  | zero => intro r h; rw [dz_small (by simpa using h)]; simp at h; simp [pad, Nat.mod_eq_of_lt h]
  | succ m ih =>
    intro r h
    rw [Nat.pow_succ] at h
    show pad (m + 1) (r / 10) ++ _ = _
    rw [ih (r / 10) (by omega)]
    by_cases h1 : r < 10
    · rw [dz_small h1, Nat.div_eq_of_lt h1, dz_small (by decide : 0 < 10), Nat.mod_eq_of_lt h1]
      simp only [List.length_singleton, Nat.add_sub_cancel, List.append_assoc]
      rw [show List.replicate (m + 1) (48 : Int) = List.replicate m 48 ++ [48] from List.replicate_succ' , List.append_assoc]
      rfl
    · rw [dz_big h1, List.length_append, List.length_singleton, List.append_assoc, show m + 1 + 1 - ((dz (r / 10)).length + 1) = m + 1 - (dz (r / 10)).length by omega]
theorem sdigits : ∀ n : Nat, n < 10000000 → Ev (fun k => spec_l02Digits.f k (n : Int)) (strOfNums (dz n)) := by
  intro n
  induction n using Nat.strongRecOn with
  | _ n ih =>
    intro hn
    by_cases h1 : n < 10
    · refine Ev.step (f := fun _ => some (strOfNums (dz n))) (fun k => ?_) (ev_of fun _ => rfl)
      simp only [spec_l02Digits.f]
      rw [if_pos (by omega), wrapZ _ (by omega) (by omega), dz_small h1, Int.emod_eq_of_lt (by omega) (by omega)]
    · have e : Int.tdiv (n : Int) 10 = ((n / 10 : Nat) : Int) := by rw [Int.tdiv_eq_ediv_of_nonneg (by omega)]; rfl
      have e2 : Int.tmod (n : Int) 10 = ((n % 10 : Nat) : Int) := by rw [Int.tmod_eq_emod_of_nonneg (by omega)]; rfl
      have h2 := dz_len 6 (n / 10) (by omega)
      refine Ev.step (f := fun k => (spec_l02Digits.f k ((n / 10 : Nat) : Int)).bind fun t => if t.size + (strOfNums [48 + ((n % 10 : Nat) : Int)]).size ≤ 9223372036854775807 then some (t ++ strOfNums [48 + ((n % 10 : Nat) : Int)]) else none) (fun k => ?_) ?_
      · simp only [spec_l02Digits.f]
        rw [if_neg (by omega), e, e2, wrapZ _ (by omega) (by omega), wrapZ _ (by omega) (by omega), Int.emod_eq_of_lt (by omega) (by omega)]
        rfl
      · refine Ev.bind (f := fun k t => _) (ih (n / 10) (by omega) (by omega)) (ifp ?_ (ev_of fun _ => ?_))
        · rw [strOfNums_size, strOfNums_size, List.length_singleton]; omega
        · rw [dz_big h1, son]
structure St (a : List Int) (t : Nat) (out : List Int) (r : Int) : Prop where
  dig : Dig 16777216 out
  len : out.length = a.length
  fr : 0 ≤ r ∧ r < 10000000
  low : out.take t = a.take t
  inv : val 16777216 (a.drop t) = 10000000 * val 16777216 (out.drop t) + r
theorem St.start {a : List Int} (ha : Dig 16777216 a) : St a a.length a 0 := by
  refine ⟨ha, rfl, by omega, rfl, ?_⟩
  rw [List.drop_length, val_nil]
  rfl
theorem St.step {a out : List Int} {r x : Int} {t : Nat} (h : St a (t + 1) out r) (ha : Dig 16777216 a) (ht : t < a.length) (hx : x = r * 16777216 + out.getD t 0) :
    St a t (out.set t (x / 10000000)) (x % 10000000) ∧ 0 ≤ x ∧ x < 167772160000000 ∧ 0 ≤ r := by
  have hot := h.dig.all0 (by decide) t
  have hat : out.getD t 0 = a.getD t 0 := by
    have h1 := congrArg (fun l : List Int => l.getD t 0) h.low
    have hl := h.len
    simp only [List.getD, List.getElem?_take_of_lt (show t < t + 1 by omega)] at h1 ⊢
    exact h1
  have hr := h.fr
  have cB : ((16777216 : Nat) : Int) = 16777216 := rfl
  rw [cB] at hot
  have hx0 : 0 ≤ x := by omega
  have hx1 : x < 167772160000000 := by omega
  have hlen := h.len
  refine ⟨⟨h.dig.set _ (by omega) (by rw [cB]; omega), by simpa using hlen, by omega, ?_, ?_⟩, hx0, hx1, hr.1⟩
  · rw [List.take_set_of_le (Nat.le_refl t)]
    have h1 := congrArg (List.take t) h.low
    rw [List.take_take, List.take_take, Nat.min_eq_left (by omega)] at h1
    exact h1
  · rw [val_drop (l := a) ht, val_drop (l := out.set t (x / 10000000)) (by simp; omega), Dg.getD_set_eq (by omega), h.inv, List.drop_set_of_lt (by omega), ← hat, cB]
    omega
theorem St.done {V : Nat} {out : List Int} {r : Int} (h : St (L V) 0 out r) : val 16777216 out = ((V / 10000000 : Nat) : Int) ∧ r = ((V % 10000000 : Nat) : Int) := by
  have e := h.inv
  rw [List.drop_zero, List.drop_zero, L_val] at e
  have hr := h.fr
  have := val_nonneg h.dig
  omega
theorem strim (X : ByteArray) (r s : Int) (ls : List Int) {R : ByteArray} : ∀ (n : Nat) (l : List Int), l.length = n → Dig 16777216 l → n ≤ 1099511627776 → Ev (fun k => spec_l02Text.j3 k X (L (val 16777216 l).toNat) r s ls) R → Ev (fun k => spec_l02Text.l2 k X l r s ls) R := by
  intro n
  induction n with
  | zero =>
    intro l hl hd _ hE
    have : l = [] := List.length_eq_zero_iff.1 hl
    subst this
    rw [show (val 16777216 ([] : List Int)).toNat = 0 from rfl, L_zero] at hE
    refine Ev.step (f := fun k => spec_l02Text.j3 k X [] r s ls) (fun k => ?_) hE
    simp only [spec_l02Text.l2]
    rw [if_neg (by simp)]
  | succ n ih =>
    intro l hl hd hn hE
    have e1 : wrap64 ((l.length : Int) - 1) = (n : Int) := by rw [wrapZ _ (by omega) (by omega)]; omega
    by_cases h0 : l.getD n 0 = 0
    · have hv := L_snoc0 n (by omega) h0
      rw [← hv] at hE
      refine Ev.step (f := fun k => spec_l02Text.l2 k X (l.take n) r s ls) (fun k => ?_) (ih _ (by simp; omega) (hd.take n) (by omega) hE)
      simp only [spec_l02Text.l2]
      rw [e1, if_pos (by omega), if_pos (by omega), if_pos (by omega), rdN, if_pos h0, if_pos (by omega), Int.toNat_natCast]
    · have ht : Top l := by
        rw [top_iff]; right; rw [show l.length - 1 = n by omega]; exact h0
      rw [L_of hd ht] at hE
      refine Ev.step (f := fun k => spec_l02Text.j3 k X l r s ls) (fun k => ?_) hE
      simp only [spec_l02Text.l2]
      rw [e1, if_pos (by omega), if_pos (by omega), if_pos (by omega), rdN, if_neg h0]
theorem sdiv (X : ByteArray) (V : Nat) (hV : bl V ≤ 2400) (s : Int) (ls : List Int) {R : ByteArray} (hE : Ev (fun k => spec_l02Text.j3 k X (L (V / 10000000)) ((V % 10000000 : Nat) : Int) s ls) R) : ∀ (t : Nat) (out : List Int) (r : Int), St (L V) t out r → t ≤ (L V).length → Ev (fun k => spec_l02Text.l1 k X out r ((t : Int) - 1) s ls) R := by
  have hL := L_len V
  intro t
  induction t with
  | zero =>
    intro out r h ht
    obtain ⟨e1, e2⟩ := h.done
    refine Ev.step (f := fun k => spec_l02Text.l2 k X out r s ls) (fun k => ?_) ?_
    · simp only [spec_l02Text.l1]
      rw [if_neg (by omega)]
    · refine strim X r s ls out.length out rfl h.dig (by rw [h.len]; omega) ?_
      rw [e1, Int.toNat_natCast, e2]
      exact hE
  | succ t ih =>
    intro out r h ht
    obtain ⟨h1, h2, h3, h4⟩ := h.step (L_dig V) (by omega) rfl
    have ho := h.dig.all0 (by decide) t
    have hr := h.fr
    have hl := h.len
    have e1 : ((t + 1 : Nat) : Int) - 1 = (t : Int) := by omega
    have h5 : ((16777216 : Nat) : Int) = 16777216 := rfl
    refine Ev.step (f := fun k => spec_l02Text.l1 k X (out.set t ((r * 16777216 + out.getD t 0) / 10000000)) ((r * 16777216 + out.getD t 0) % 10000000) ((t : Int) - 1) s ls) (fun k => ?_) (ih _ _ h1 (by omega))
    simp only [spec_l02Text.l1]
    rw [e1, rdN]
    generalize out.getD t 0 = d at *
    rw [if_pos (by omega), if_pos (by omega), if_pos (by omega), wrapZ (r * 16777216) (by omega) (by omega), wrapZ (r * 16777216 + d) (by omega) (by omega), Int.tdiv_eq_ediv_of_nonneg h2, Int.tmod_eq_emod_of_nonneg h2, Int.toNat_natCast, wrapZ (((t : Nat) : Int) - 1) (by omega) (by omega), wrapZ _ (by omega) (by omega)]
theorem sfill (T : List Int) (V : Nat) (s : Int) (ls : List Int) {R : ByteArray} (hT : T.length ≤ 1000000) (h0 : V ≠ 0) : ∀ (d : Nat) (x : List Int), x.length + d = 7 → Ev (fun k => spec_l02Text.l0 k (strOfNums (List.replicate d 48 ++ x ++ T)) (L V) s ls) R → Ev (fun k => spec_l02Text.l3 k (strOfNums T) (L V) (strOfNums x) s ls) R := by
  have hp := L_pos h0
  intro d
  induction d with
  | zero =>
    intro x hx hE
    refine Ev.step (f := fun k => spec_l02Text.l0 k (strOfNums x ++ strOfNums T) (L V) s ls) (fun k => ?_) (by simpa [son] using hE)
    simp only [spec_l02Text.l3]
    rw [if_pos (by omega), strOfNums_size, strOfNums_size, if_neg (by omega), if_pos (by omega)]
  | succ d ih =>
    intro x hx hE
    refine Ev.step (f := fun k => spec_l02Text.l3 k (strOfNums T) (L V) (strOfNums (48 :: x)) s ls) (fun k => ?_) (ih (48 :: x) (by simp; omega) ?_)
    · simp only [spec_l02Text.l3]
      rw [if_pos (by omega), strOfNums_size, if_pos (by omega), if_pos (by omega), e48, ← son]
      rfl
    · rw [List.replicate_succ'] at hE
      simpa using hE
theorem stext (z : Int) (hb : bl z.natAbs ≤ 2400) : Ev (fun k => spec_l02Text.f k (sgn z) (L z.natAbs)) (strOfNums (txt z)) := by
  unfold spec_l02Text.f
  by_cases hz : z = 0
  · subst hz
    exact ifp rfl (ev_of fun _ => by rw [e48]; rfl)
  have hs : sgn z ≠ 0 := by unfold sgn; split <;> (try split) <;> omega
  have hln := L_len z.natAbs
  have hdl := ddig_len z.natAbs
  refine ifn hs ?_
  have hown : spec_l01Own.f (L z.natAbs) = some (L z.natAbs) := by
    unfold spec_l01Own.f
    simp only [Option.bind_some, List.length_nil, List.nil_append]
    rw [if_pos (by omega)]
  simp only [hown, Option.bind_some]
  suffices H : ∀ (V : Nat) (T : List Int), V ≤ z.natAbs → (ddig z.natAbs).reverse = (ddig V).reverse ++ T → Ev (fun k => spec_l02Text.l0 k (strOfNums T) (L V) (sgn z) (L z.natAbs)) (strOfNums (txt z)) by
    have := H z.natAbs [] (Nat.le_refl _) (by simp)
    rwa [← e0] at this
  intro V
  induction V using Nat.strongRecOn with
  | _ V ih =>
    intro T hV hT
    have hTl : T.length ≤ 2400 := by
      have := congrArg List.length hT
      rw [List.length_append, List.length_reverse, List.length_reverse] at this
      omega
    by_cases h0 : V = 0
    · subst h0
      rw [ddig_zero, List.reverse_nil, List.nil_append] at hT
      refine Ev.step (f := fun k => _) (fun k => by simp only [spec_l02Text.l0]; rw [if_neg (by rw [L_zero]; decide)]) ?_
      by_cases hn : z < 0
      · refine ifp (by unfold sgn; rw [if_pos hn]; decide) (ifp (by rw [strOfNums_size]; omega) (ev_of fun _ => ?_))
        unfold txt
        rw [if_pos hn, if_neg hz, hT, e45, ← son]
      · refine ifn (by unfold sgn; rw [if_neg hn]; split <;> omega) (ev_of fun _ => ?_)
        unfold txt
        rw [if_neg hn, if_neg hz, hT, List.nil_append]
    · have hbV : bl V ≤ 2400 := Nat.le_trans (bl_mono hV) hb
      have hLV := L_len V
      have hp := L_pos h0
      have hr : V % 10000000 < 10 ^ (6 + 1) := Nat.mod_lt _ (by decide)
      have hq : V / 10000000 < V := Nat.div_lt_self (by omega) (by decide)
      have hlz := dz_len 6 (V % 10000000) hr
      have e1 : wrap64 (((L V).length : Int) - 1) = ((L V).length : Int) - 1 := wrapZ _ (by omega) (by omega)
      refine Ev.step (f := fun k => spec_l02Text.l1 k (strOfNums T) (L V) 0 (((L V).length : Int) - 1) (sgn z) (L z.natAbs)) (fun k => by simp only [spec_l02Text.l0]; rw [if_pos (by omega), e1]) ?_
      refine sdiv (strOfNums T) V hbV (sgn z) (L z.natAbs) ?_ (L V).length (L V) 0 (St.start (L_dig V)) (Nat.le_refl _)
      refine Ev.step (f := fun k => (spec_l02Digits.f k ((V % 10000000 : Nat) : Int)).bind fun t515 => (spec_l02Text.l3 k (strOfNums T) (L (V / 10000000)) t515 (sgn z) (L z.natAbs))) (fun k => by simp only [spec_l02Text.j3]) ?_
      refine Ev.bind (f := fun k t => _) (sdigits (V % 10000000) hr) ?_
      by_cases hq0 : V / 10000000 = 0
      · have hVs : V % 10000000 = V := by omega
        rw [hVs] at hlz
        rw [hq0, L_zero, hVs]
        have := ih 0 (by omega) (dz V ++ T) (by omega) (by rw [ddig_zero, List.reverse_nil, List.nil_append, hT]; unfold dz; rw [if_neg h0])
        rw [L_zero, son] at this
        refine Ev.step (f := fun k => _) (fun k => ?_) this
        simp only [spec_l02Text.l3]
        rw [if_neg (by decide), strOfNums_size, strOfNums_size, if_pos (by omega)]
      · refine sfill T (V / 10000000) (sgn z) (L z.natAbs) (by omega) hq0 (7 - (dz (V % 10000000)).length) _ (by omega) (ih _ hq _ (by omega) ?_)
        have hpd := pad_ddig 7 (V / 10000000) (V % 10000000) hq0 hr
        rw [show V / 10000000 * 10 ^ 7 + V % 10000000 = V by omega, pad_dz 6 _ hr] at hpd
        rw [hT, hpd]
        simp
theorem stext_of {s : Int} {l : List Int} (h : isW s l = true) : Ev (fun k => spec_l02Text.f k s l) (strOfNums (txt (wv s l))) := by
  obtain ⟨h1, h2, h3⟩ := isW_eq h
  have := stext (wv s l) h3
  rwa [← h1, ← h2] at this
theorem swt (s : Int) (l : List Int) (hm : l.length ≤ 9223372036854775807) : Ev (fun k => spec_WholeText.f k s l) (if isW s l = true then (strOfNums (txt (wv s l)), 0) else ((⟨#[]⟩ : ByteArray), 1)) := by
  unfold spec_WholeText.f
  have h1 := l02Is s l hm
  cases hw : isW s l with
  | false =>
    rw [hw] at h1
    exact Ev.bind (f := fun k t => _) h1 (ifn (by simp) (ev_of fun _ => by rw [if_neg (by simp)]))
  | true =>
    rw [hw] at h1
    refine Ev.bind (f := fun k t => _) h1 (ifp rfl ?_)
    refine Ev.bind (f := fun k t => _) (stext_of hw) (ev_of fun _ => by rw [if_pos rfl])
end Go.Proofs.Ytfinbmnjfnajiaa.Tt
end
