/- Lemmas of the claim: Mf, Mg, Mh, Mi, Mj, Mk, Ml, Mn, Mo, Mq, Mr, Mu, Ta, Tb, Tc, Te, Td, Tf, Tg, XkRootOfWhole, Ha, He, Rs, Rw, KRootOfWhole. -/
import Derived.RegionTactic
import Derived.ChangeAlike
import Derived.Laws.CopyOwn
import Derived.Deep.OwnRows
import Derived.Test.YtfinbmnjfnajiaaQRWl
import Derived.Test.YtfinbmnjfnajiaaQRWg
import Derived.Deep.RegionLaw
import Derived.Deep.LoopGhost
import Derived.Test.YtfinbmnjfnajiaaQRWa
import Derived.Deep.CutBlock
import Derived.Deep.CutRange
import Derived.Deep.DeepCutAuto
import Derived.Test.YtfinbmnjfnajiaaQRWh
import Derived.Test.YtfinbmnjfnajiaaQRWf
import Derived.Test.YtfinbmnjfnajiaaQRWe
section
set_option linter.unusedVariables false
set_option linter.unusedSimpArgs false
namespace Go.Proofs.Ytfinbmnjfnajiaa.Mf
open Go.RowKit Go.Proofs.YtfinbmnjfnajiaaW.PrintWords Go.Proofs.Ytfinbmnjfnajiaa.PW Go.Proofs.Ytfinbmnjfnajiaa.Pc Go.Proofs.Ytfinbmnjfnajiaa.Ma Go.Proofs.Ytfinbmnjfnajiaa.Mb Go.Proofs.Ytfinbmnjfnajiaa.Mc Go.Proofs.Ytfinbmnjfnajiaa.Md Go.Proofs.Ytfinbmnjfnajiaa.Me Dg
theorem D_or (a b i : Nat) : (D (a ||| b)).getD i 0 = (((a / 4294967296 ^ i % 4294967296) ||| (b / 4294967296 ^ i % 4294967296) : Nat) : Int) := by
  rw [D_getD]
  congr 1
  rw [show (4294967296 : Nat) = 2 ^ 32 from rfl, ← Nat.pow_mul]
  have h1 : (a ||| b) / 2 ^ (32 * i) = a / 2 ^ (32 * i) ||| b / 2 ^ (32 * i) := by
    rw [← Nat.shiftRight_eq_div_pow, ← Nat.shiftRight_eq_div_pow, ← Nat.shiftRight_eq_div_pow, Nat.shiftRight_or_distrib]
  rw [h1, Nat.or_mod_two_pow]
theorem or_list {a b : Nat} {ys : List Int} (hl : ys.length = max (D a).length (D b).length) (h : ∀ j, j < ys.length → ys.getD j 0 = bits .or .u32 ((D a).getD j 0) ((D b).getD j 0)) : Dig 4294967296 ys ∧ val 4294967296 ys = ((a ||| b : Nat) : Int) := by
  have hb : ∀ j, bits .or .u32 ((D a).getD j 0) ((D b).getD j 0) = (((a ||| b) / 4294967296 ^ j % 4294967296 : Nat) : Int) := by
    intro j
    rw [← D_getD, D_or, D_getD, D_getD]
    exact (bits_nat .u32 32 (by decide) Po.wraps_u32 _ _ (Nat.mod_lt _ (by decide)) (Nat.mod_lt _ (by decide))).2
  have h2 : ∀ j, j < ys.length → ys.getD j 0 = (((a ||| b) / 4294967296 ^ j % 4294967296 : Nat) : Int) := fun j hj => by rw [h j hj, hb]
  constructor
  · exact dig_of_getD fun j hj => by rw [h2 j hj]; have := Nat.mod_lt ((a ||| b) / 4294967296 ^ j) (show 0 < 4294967296 by decide); omega
  · rw [val_digits (by decide) ys (a ||| b) h2]
    congr 1
    apply Nat.mod_eq_of_lt
    have e : (4294967296 : Nat) = 2 ^ 32 := rfl
    rw [e, ← Nat.pow_mul]
    apply Nat.or_lt_two_pow
    · have := D_bl a
      have h3 := lt_bl a
      have := Nat.pow_le_pow_right (n := 2) (by decide) (show bl a ≤ 32 * ys.length by omega)
      omega
    · have := D_bl b
      have h3 := lt_bl b
      have := Nat.pow_le_pow_right (n := 2) (by decide) (show bl b ≤ 32 * ys.length by omega)
      omega
theorem made_list (n : Nat) : (madeCells #[Value.int .u32 0] n).toList = (List.replicate n (0 : Int)).map (Value.int .u32) := by
  apply List.ext_getElem
  · simp [madeCells]
  · intro i h1 h2
    simp [madeCells, Nat.mod_one]
theorem splice_list {a : List Int} {n : Nat} (h : a.length ≤ n) : splice ((List.replicate n (0 : Int)).map (Value.int .u32)) 0 (a.map (Value.int .u32)) = (a ++ List.replicate (n - a.length) 0).map (Value.int .u32) := by
  unfold splice
  simp
theorem append_zeros_getD (a : List Int) (k j : Nat) : (a ++ List.replicate k (0 : Int)).getD j 0 = a.getD j 0 := by
  rcases Nat.lt_or_ge j a.length with h | h
  · simp [List.getD, List.getElem?_append_left h]
  · rw [getD_ge h]
    simp [List.getD, List.getElem?_append_right h, List.getElem?_replicate]
    split <;> rfl
def OrTo (a b : Nat) (m i : Nat) (ys : List Int) : Prop := ys.length = m ∧ (∀ j, j < i → ys.getD j 0 = bits .or .u32 ((D a).getD j 0) ((D b).getD j 0)) ∧ (∀ j, i ≤ j → ys.getD j 0 = (D a).getD j 0)
theorem OrTo.step {a b m i : Nat} {ys : List Int} (h : OrTo a b m i ys) (hi : i < m) : OrTo a b m (i + 1) (ys.set i (bits .or .u32 ((D a).getD i 0) ((D b).getD i 0))) := by
  obtain ⟨h1, h2, h3⟩ := h
  refine ⟨by simpa using h1, fun j hj => ?_, fun j hj => ?_⟩
  · by_cases e : j = i
    · subst e; rw [Dg.getD_set_eq (by omega)]
    · rw [Dg.getD_set_ne (by omega)]; exact h2 j (by omega)
  · rw [Dg.getD_set_ne (by omega)]; exact h3 j (by omega)
theorem or_zero (a j : Nat) : bits .or .u32 ((D a).getD j 0) 0 = (D a).getD j 0 := by
  have := (bits_nat .u32 32 (by decide) Po.wraps_u32 (a / 4294967296 ^ j % 4294967296) 0 (Nat.mod_lt _ (by decide)) (by decide)).2
  rw [D_getD]
  simpa using this
theorem OrTo.done {a b m : Nat} {ys : List Int} (h : OrTo a b m (D b).length ys) (hm : m = max (D a).length (D b).length) : Dig 4294967296 ys ∧ val 4294967296 ys = ((a ||| b : Nat) : Int) := by
  obtain ⟨h1, h2, h3⟩ := h
  refine or_list (by omega) fun j hj => ?_
  by_cases hjb : j < (D b).length
  · exact h2 j hjb
  · rw [h3 j (by omega), getD_ge (l := D b) (by omega), or_zero]
theorem nums_set {ys : List Int} {i : Nat} {x : Int} : (ys.map (Value.int .u32)).toArray.setIfInBounds i (.int .u32 x) = ((ys.set i x).map (Value.int .u32)).toArray := by
  simp [List.map_set]
theorem sizeU : (Try.prog.info? 110).map (·.size) = some 1 := by kernel_rfl
set_option maxHeartbeats 1600000 in
set_option maxRecDepth 100000 in
theorem orr {w : World} {p q s : Nat} {x y : Int} (hp : Blk w p) (hx : Z w q x) (hy : Z w s y) (h1 : bl x.natAbs ≤ 536870912) (h2 : bl y.natAbs ≤ 536870912) :
    Calls Try.prog 73 #[.pointer (some ⟨p, 0, none⟩), .pointer (some ⟨q, 0, none⟩), .pointer (some ⟨s, 0, none⟩)] w (Puts w p ((x.natAbs ||| y.natAbs : Nat) : Int)) := by
  obtain ⟨A, c, k0, k1, hm, hq⟩ := Z.open hx
  obtain ⟨B, d, j0, j1, hn, hs⟩ := Z.open hy
  have hl1 := D_len x.natAbs
  have hl2 := D_len y.natAbs
  generalize hla : (D x.natAbs).length = la at *
  generalize hlb : (D y.natAbs).length = lb at *
  have HLA := Lib.hid hla
  have HLB := Lib.hid hlb
  have HM := Lib.hid hm
  have HNN := Lib.hid hn
  have HPB := Lib.hid hp
  have hla2 : la ≤ 536870912 := by omega
  have hlb2 : lb ≤ 536870912 := by omega
  clear hla hlb
  clear hp hx hy hm hn h1 h2 hl1 hl2
  have hfin : ∀ (m : Nat) (ys : List Int) (wr : World), m = max la lb → OrTo x.natAbs y.natAbs m lb ys → wr.heap[w.heap.size]? = some (.cells (ys.map (Value.int .u32)).toArray 110 (0, 0)) → Below w.heap.size w wr →
      Calls Try.prog 72 #[.pointer (some ⟨p, 0, none⟩), .bool false, .slice (some ⟨w.heap.size, 0, none⟩) m m] wr (Puts w p ((x.natAbs ||| y.natAbs : Nat) : Int)) := by
    intro m ys wr hm hor hblk hb
    have hl := hor.1
    rw [← HLB.out] at hor
    obtain ⟨hd, hv⟩ := hor.done (by rw [HLA.out, HLB.out]; exact hm)
    have hr := Mg.row (xs := ys) hblk (by simp) (by omega)
    have := put (neg := false) (HPB.out.below hb) hr hd (by omega)
    rw [hl] at this
    refine this.mono fun e w' h => ?_
    rw [hv] at h
    exact Puts.below hb h
  have HF := Lib.hid hfin
  clear hfin
  by_cases hlt : la < lb
  · have hmk := run_make_row' (P := Try.prog) 61 110 (.int .u32 0) 4 Try.underlying61 infoU rfl .i64 .i64 lb (by omega) (by omega)
    have hlb : lb = max la lb := by omega
    have Hlb := Lib.hid hlb
    clear hlb
    have hlm : lb ≤ lb := Nat.le_refl _
    have HBEL := Lib.hid (show Below w.heap.size w ((w.alloc (.cells (madeCells #[Value.int .u32 0] lb) 110)).drew) from (below_alloc w _).drew)
    have HBLK := Lib.hid (show ((w.alloc (.cells (madeCells #[Value.int .u32 0] lb) 110)).drew).heap[w.heap.size]? = some (.cells ((List.replicate lb (0 : Int)).map (Value.int .u32)).toArray 110 (0, 0)) by
      rw [show ((List.replicate lb (0 : Int)).map (Value.int .u32)).toArray = madeCells #[Value.int .u32 0] lb by rw [← made_list]]
      exact heap_alloc_new w _)
    have HLEN := Lib.hid (show ((D x.natAbs).map (Value.int .u32)).length = Nat.min la lb by rw [List.length_map, HLA.out]; exact (Nat.min_eq_left (by omega)).symm)
    have HFIT := Lib.hid (show 0 + ((D x.natAbs).map (Value.int .u32)).length ≤ ((List.replicate lb (0 : Int)).map (Value.int .u32)).length by rw [List.length_map, List.length_map, List.length_replicate, HLA.out]; omega)
    have HONE := Lib.hid (show ∀ v ∈ (D x.natAbs).map (Value.int .u32), v.oneCell' = true by intro v hv; obtain ⟨u, _, rfl⟩ := List.mem_map.1 hv; rfl)
    have HPOS := Lib.hid (show 0 < ((D x.natAbs).map (Value.int .u32)).length → ∃ ad, A = some ad ∧ ∀ j v, ((D x.natAbs).map (Value.int .u32))[j]? = some v → ((w.alloc (.cells (madeCells #[Value.int .u32 0] lb) 110)).drew).cell? (ad.add j) = some v by
      intro hpos
      rw [List.length_map] at hpos
      have hC := HM.out.1
      obtain ⟨ad, had, _⟩ := Kd.at_int hC 0 (by omega) (by omega)
      subst had
      refine ⟨ad, rfl, fun j v hj => ?_⟩
      rw [List.getElem?_map] at hj
      have hjl : j < (D x.natAbs).length := by
        rcases Nat.lt_or_ge j (D x.natAbs).length with h | h
        · exact h
        · rw [List.getElem?_eq_none h] at hj; cases hj
      obtain ⟨ad', had', hc'⟩ := Kd.at_int hC (j : Int) (by omega) (by omega)
      cases had'
      rw [Int.toNat_natCast, rdN] at hc'
      rw [List.getElem?_eq_getElem hjl, Option.map_some] at hj
      cases hj
      rw [getD_lt hjl] at hc'
      exact (HBEL.out.cell (World.block_lt_of_cell? w _ hc')).trans hc')
    go_enter Try.func73, Try.ntmps73
    go_wp2
    go_region
    clear hmk
    go_wp2_with ((with_reducible refine gate_builtin (b := .copy) (xs := #[.tmp 22, .tmp 26]) rfl ?_); refine wpList_copy_splice rfl (.tmp 22) (.tmp 26) 61 61 rfl 110 Try.underlying61 sizeU (some ⟨w.heap.size, 0, none⟩) A lb lb la c rfl rfl w.heap.size 0 ((List.replicate lb (0 : Int)).map (Value.int .u32)) 110 HBLK.out ((D x.natAbs).map (Value.int .u32)) HLEN.out (fun h_ => ⟨rfl, HPOS.out h_⟩) HFIT.out HONE.out w.heap.size w HBEL.out (Nat.le_refl _) ?_; clear HBLK HLEN HPOS HFIT HONE HBEL; intro w3 hblk hbel; have HB3 := Lib.hid hblk.out; have HBL := Lib.hid hbel; have j1' := (hbel.cell (p := ⟨s, 1, none⟩) hs).trans j1; clear hblk hbel)
    go_loopw [33] (fun i wr => ∃ (k : Nat) (ys : List Int), i = .int .i64 k ∧ k ≤ lb ∧ Hid (OrTo x.natAbs y.natAbs lb k ys) ∧ Hid (wr.heap[w.heap.size]? = some (.cells (ys.map (Value.int .u32)).toArray 110 (0, 0))) ∧ Hid (Below w.heap.size w wr)) (fun i _ => lb - (intOf i).toNat)
    case atStart =>
      have HMA := HM.out
      refine ⟨0, D x.natAbs ++ List.replicate (lb - (D x.natAbs).length) 0, rfl, by omega, Lib.hid ⟨by rw [List.length_append, List.length_replicate, HLA.out]; omega, fun j hj => by omega, fun j _ => append_zeros_getD _ _ _⟩, Lib.hid ?_, HBL⟩
      have := HB3.out
      rw [splice_list (by rw [HLA.out]; omega)] at this
      exact this
    case round =>
      obtain ⟨k, ys, rfl, hk, HO, HW, HBR⟩ := hrel
      by_cases hkb : k < lb
      · obtain ⟨ad, hBad, hcell⟩ := Kd.at_int HNN.out.1 (k : Int) (by omega) (by rw [HLB.out]; omega)
        subst hBad
        rw [Int.toNat_natCast, rdN] at hcell
        have hcell' := (HBR.out.cell (World.block_lt_of_cell? w _ hcell)).trans hcell
        clear hcell
        have hyl := HO.out.1
        have hrow := blk_cell HW.out k
        have hfro := blk_frozen HW.out k
        have hyk : (ys.map (Value.int .u32)).toArray[k]? = some (.int .u32 ((D x.natAbs).getD k 0)) := by
          rw [List.getElem?_toArray, List.getElem?_map, List.getElem?_eq_getElem (by omega), ← HO.out.2.2 k (Nat.le_refl _), getD_lt (by omega)]; rfl
        rw [hyk] at hrow
        have HS := Lib.hid (HO.out.step (by omega))
        have hnext : ((wr.setCell ⟨w.heap.size, k, none⟩ (.int .u32 (bits .or .u32 ((D x.natAbs).getD k 0) ((D y.natAbs).getD k 0)))).heap[w.heap.size]?) = some (.cells ((ys.set k (bits .or .u32 ((D x.natAbs).getD k 0) ((D y.natAbs).getD k 0))).map (Value.int .u32)).toArray 110 (0, 0)) := by
          rw [blk_set HW.out k, nums_set]
        have HNX := Lib.hid hnext
        have HBN := Lib.hid (HBR.out.setCell (p := ⟨w.heap.size, k, none⟩) (Nat.le_refl _) (.int .u32 (bits .or .u32 ((D x.natAbs).getD k 0) ((D y.natAbs).getD k 0))))
        clear hnext hyk hyl HO HW HBR
        generalize (D x.natAbs).getD k 0 = u at *
        generalize (D y.natAbs).getD k 0 = v at *
        go_wp2
        go_roundw
        case rel => exact ⟨k + 1, _, by go_num, by omega, HS, HNX, HBN⟩
        case measure => simp [intOf]; omega
      · obtain rfl : lb = k := by omega
        have HC := Lib.hid (HF.out lb ys wr Hlb.out HO.out HW.out HBR.out)
        clear HO HW HBR
        go_wp2_with (go_at_call 72; refine HC.out.mono ?_; rintro e w2 ⟨rfl, hz2, hg2⟩; have HE := Lib.hid (show Puts w p ((x.natAbs ||| y.natAbs : Nat) : Int) _ w2 from ⟨rfl, hz2, hg2⟩); clear hz2 hg2)
        go_ret
        exact HE.out
  · have hmk := run_make_row' (P := Try.prog) 61 110 (.int .u32 0) 4 Try.underlying61 infoU rfl .i64 .i64 la (by omega) (by omega)
    have hla : la = max la lb := by omega
    have Hla := Lib.hid hla
    clear hla
    have hlm : lb ≤ la := by omega
    have HBEL := Lib.hid (show Below w.heap.size w ((w.alloc (.cells (madeCells #[Value.int .u32 0] la) 110)).drew) from (below_alloc w _).drew)
    have HBLK := Lib.hid (show ((w.alloc (.cells (madeCells #[Value.int .u32 0] la) 110)).drew).heap[w.heap.size]? = some (.cells ((List.replicate la (0 : Int)).map (Value.int .u32)).toArray 110 (0, 0)) by
      rw [show ((List.replicate la (0 : Int)).map (Value.int .u32)).toArray = madeCells #[Value.int .u32 0] la by rw [← made_list]]
      exact heap_alloc_new w _)
    have HLEN := Lib.hid (show ((D x.natAbs).map (Value.int .u32)).length = Nat.min la la by rw [List.length_map, HLA.out]; exact (Nat.min_eq_left (by omega)).symm)
    have HFIT := Lib.hid (show 0 + ((D x.natAbs).map (Value.int .u32)).length ≤ ((List.replicate la (0 : Int)).map (Value.int .u32)).length by rw [List.length_map, List.length_map, List.length_replicate, HLA.out]; omega)
    have HONE := Lib.hid (show ∀ v ∈ (D x.natAbs).map (Value.int .u32), v.oneCell' = true by intro v hv; obtain ⟨u, _, rfl⟩ := List.mem_map.1 hv; rfl)
    have HPOS := Lib.hid (show 0 < ((D x.natAbs).map (Value.int .u32)).length → ∃ ad, A = some ad ∧ ∀ j v, ((D x.natAbs).map (Value.int .u32))[j]? = some v → ((w.alloc (.cells (madeCells #[Value.int .u32 0] la) 110)).drew).cell? (ad.add j) = some v by
      intro hpos
      rw [List.length_map] at hpos
      have hC := HM.out.1
      obtain ⟨ad, had, _⟩ := Kd.at_int hC 0 (by omega) (by omega)
      subst had
      refine ⟨ad, rfl, fun j v hj => ?_⟩
      rw [List.getElem?_map] at hj
      have hjl : j < (D x.natAbs).length := by
        rcases Nat.lt_or_ge j (D x.natAbs).length with h | h
        · exact h
        · rw [List.getElem?_eq_none h] at hj; cases hj
      obtain ⟨ad', had', hc'⟩ := Kd.at_int hC (j : Int) (by omega) (by omega)
      cases had'
      rw [Int.toNat_natCast, rdN] at hc'
      rw [List.getElem?_eq_getElem hjl, Option.map_some] at hj
      cases hj
      rw [getD_lt hjl] at hc'
      exact (HBEL.out.cell (World.block_lt_of_cell? w _ hc')).trans hc')
    go_enter Try.func73, Try.ntmps73
    go_wp2
    go_region
    clear hmk
    go_wp2_with ((with_reducible refine gate_builtin (b := .copy) (xs := #[.tmp 22, .tmp 26]) rfl ?_); refine wpList_copy_splice rfl (.tmp 22) (.tmp 26) 61 61 rfl 110 Try.underlying61 sizeU (some ⟨w.heap.size, 0, none⟩) A la la la c rfl rfl w.heap.size 0 ((List.replicate la (0 : Int)).map (Value.int .u32)) 110 HBLK.out ((D x.natAbs).map (Value.int .u32)) HLEN.out (fun h_ => ⟨rfl, HPOS.out h_⟩) HFIT.out HONE.out w.heap.size w HBEL.out (Nat.le_refl _) ?_; clear HBLK HLEN HPOS HFIT HONE HBEL; intro w3 hblk hbel; have HB3 := Lib.hid hblk.out; have HBL := Lib.hid hbel; have j1' := (hbel.cell (p := ⟨s, 1, none⟩) hs).trans j1; clear hblk hbel)
    go_loopw [33] (fun i wr => ∃ (k : Nat) (ys : List Int), i = .int .i64 k ∧ k ≤ lb ∧ Hid (OrTo x.natAbs y.natAbs la k ys) ∧ Hid (wr.heap[w.heap.size]? = some (.cells (ys.map (Value.int .u32)).toArray 110 (0, 0))) ∧ Hid (Below w.heap.size w wr)) (fun i _ => lb - (intOf i).toNat)
    case atStart =>
      have HMA := HM.out
      refine ⟨0, D x.natAbs ++ List.replicate (la - (D x.natAbs).length) 0, rfl, by omega, Lib.hid ⟨by rw [List.length_append, List.length_replicate, HLA.out]; omega, fun j hj => by omega, fun j _ => append_zeros_getD _ _ _⟩, Lib.hid ?_, HBL⟩
      have := HB3.out
      rw [splice_list (by rw [HLA.out]; omega)] at this
      exact this
    case round =>
      obtain ⟨k, ys, rfl, hk, HO, HW, HBR⟩ := hrel
      by_cases hkb : k < lb
      · obtain ⟨ad, hBad, hcell⟩ := Kd.at_int HNN.out.1 (k : Int) (by omega) (by rw [HLB.out]; omega)
        subst hBad
        rw [Int.toNat_natCast, rdN] at hcell
        have hcell' := (HBR.out.cell (World.block_lt_of_cell? w _ hcell)).trans hcell
        clear hcell
        have hyl := HO.out.1
        have hrow := blk_cell HW.out k
        have hfro := blk_frozen HW.out k
        have hyk : (ys.map (Value.int .u32)).toArray[k]? = some (.int .u32 ((D x.natAbs).getD k 0)) := by
          rw [List.getElem?_toArray, List.getElem?_map, List.getElem?_eq_getElem (by omega), ← HO.out.2.2 k (Nat.le_refl _), getD_lt (by omega)]; rfl
        rw [hyk] at hrow
        have HS := Lib.hid (HO.out.step (by omega))
        have hnext : ((wr.setCell ⟨w.heap.size, k, none⟩ (.int .u32 (bits .or .u32 ((D x.natAbs).getD k 0) ((D y.natAbs).getD k 0)))).heap[w.heap.size]?) = some (.cells ((ys.set k (bits .or .u32 ((D x.natAbs).getD k 0) ((D y.natAbs).getD k 0))).map (Value.int .u32)).toArray 110 (0, 0)) := by
          rw [blk_set HW.out k, nums_set]
        have HNX := Lib.hid hnext
        have HBN := Lib.hid (HBR.out.setCell (p := ⟨w.heap.size, k, none⟩) (Nat.le_refl _) (.int .u32 (bits .or .u32 ((D x.natAbs).getD k 0) ((D y.natAbs).getD k 0))))
        clear hnext hyk hyl HO HW HBR
        generalize (D x.natAbs).getD k 0 = u at *
        generalize (D y.natAbs).getD k 0 = v at *
        go_wp2
        go_roundw
        case rel => exact ⟨k + 1, _, by go_num, by omega, HS, HNX, HBN⟩
        case measure => simp [intOf]; omega
      · obtain rfl : lb = k := by omega
        have HC := Lib.hid (HF.out la ys wr Hla.out HO.out HW.out HBR.out)
        clear HO HW HBR
        go_wp2_with (go_at_call 72; refine HC.out.mono ?_; rintro e w2 ⟨rfl, hz2, hg2⟩; have HE := Lib.hid (show Puts w p ((x.natAbs ||| y.natAbs : Nat) : Int) _ w2 from ⟨rfl, hz2, hg2⟩); clear hz2 hg2)
        go_ret
        exact HE.out
end Go.Proofs.Ytfinbmnjfnajiaa.Mf
end
section
set_option linter.unusedVariables false
set_option linter.unusedSimpArgs false
namespace Go.Proofs.Ytfinbmnjfnajiaa.Mg
open Go.RowKit Go.Proofs.YtfinbmnjfnajiaaW.PrintWords Go.Proofs.Ytfinbmnjfnajiaa.PW Go.Proofs.Ytfinbmnjfnajiaa.Pc Go.Proofs.Ytfinbmnjfnajiaa.Ma Go.Proofs.Ytfinbmnjfnajiaa.Mb Go.Proofs.Ytfinbmnjfnajiaa.Mc Go.Proofs.Ytfinbmnjfnajiaa.Md Go.Proofs.Ytfinbmnjfnajiaa.Me Go.Proofs.Ytfinbmnjfnajiaa.Mf Dg
def hiv (l : List Int) (k : Nat) : Int := val 16777216 (l.drop k)
theorem hiv_nonneg {l : List Int} (h : Dig 16777216 l) (k : Nat) : 0 ≤ hiv l k := val_nonneg (h.drop k)
theorem hiv_blN {l : List Int} (h : Dig 16777216 l) (N : Nat) (hl : 24 * l.length ≤ N) (k : Nat) : bl (hiv l k).natAbs ≤ N := by
  apply bl_le
  have h1 := val_lt (by decide) (h.drop k)
  have h0 := hiv_nonneg h k
  have h2 : (16777216 : Nat) ^ (l.drop k).length ≤ 2 ^ N := by
    rw [show (16777216 : Nat) = 2 ^ 24 from rfl, ← Nat.pow_mul]
    exact Nat.pow_le_pow_right (by decide) (by rw [List.length_drop]; omega)
  have h3 : ((16777216 : Nat) : Int) ^ (l.drop k).length = ((16777216 ^ (l.drop k).length : Nat) : Int) := by simp
  unfold hiv at *
  rw [h3] at h1
  exact Nat.lt_of_lt_of_le (by omega) h2
theorem hiv_bl {l : List Int} (h : Dig 16777216 l) (hl : l.length ≤ 100) (k : Nat) : bl (hiv l k).natAbs ≤ 2400 := hiv_blN h 2400 (by omega) k
theorem hiv_step {l : List Int} (h : Dig 16777216 l) (k : Nat) : hiv l k = ((((hiv l (k + 1)) * 2 ^ 24).natAbs ||| (l.getD k 0).natAbs : Nat) : Int) := by
  have h0 := hiv_nonneg h (k + 1)
  have hd := h.all0 (by decide) k
  have e : hiv l k = l.getD k 0 + 16777216 * hiv l (k + 1) := val_drop' l k
  obtain ⟨a, ha⟩ := Int.eq_ofNat_of_zero_le h0
  obtain ⟨d, hd'⟩ := Int.eq_ofNat_of_zero_le hd.1
  have hdl : d < 16777216 := by have := hd.2; omega
  rw [e, ha, hd']
  have e2 : ((a : Int) * 2 ^ 24).natAbs = 2 ^ 24 * a := by
    have : ((a : Int) * 2 ^ 24) = ((2 ^ 24 * a : Nat) : Int) := by simp [Int.mul_comm]
    rw [this, Int.natAbs_natCast]
  rw [e2, Int.natAbs_natCast, ← Nat.two_pow_add_eq_or_of_lt (i := 24) hdl a]
  omega
theorem below_grownB {w w1 w2 : World} {g : Nat} (h : Below g w w1) (hg : g ≤ w1.heap.size) (k : w1.grownBy w2 (some g)) : Below g w w2 :=
  h.trans ⟨k.os, k.tape, k.output, k.size, fun i hi => k.block i (by omega) (by simp; omega)⟩
theorem below_then0 {w w1 w2 : World} (h : Below w.heap.size w w1) (k : Below w.heap.size w1 w2) : Below w.heap.size w w2 := h.trans k
set_option maxHeartbeats 1600000 in
theorem toBig {w : World} {s : Int} {A : Option Addr} {c : Nat} {l : List Int} (hC : (Kd.int .i64).C w A l.length l) (hd : Dig 16777216 l) (hl : l.length ≤ 100) :
    Calls Try.prog 37 #[.agg #[.int .i64 s, .slice A l.length c]] w (News w (if s < 0 then -(val 16777216 l) else val 16777216 l)) := by
  obtain ⟨W1, hW1⟩ : ∃ W1, W1 = w.alloc (.cells #[.int .i64 s, .slice A l.length c] 26) := ⟨_, rfl⟩
  obtain ⟨W2, hW2⟩ : ∃ W2, W2 = W1.alloc (.cells #[.bool false, .slice none 0 0] 63) := ⟨_, rfl⟩
  have hs1 : W1.heap.size = w.heap.size + 1 := by rw [hW1]; simp
  have hb1 : Below w.heap.size w W1 := by rw [hW1]; exact below_alloc w _
  have hb2 : Below W1.heap.size W1 W2 := by rw [hW2]; exact below_alloc W1 _
  have hb02 : Below w.heap.size w W2 := below_then hb1 hb2
  have hz2 : Z W2 W1.heap.size 0 := by rw [hW2]; exact Z.new W1
  have hbox : W1.heap[w.heap.size]? = some (.cells #[.int .i64 s, .slice A l.length c] 26 (0, 0)) := by rw [hW1]; exact heap_alloc_new w _
  have hbox2 := (hb2.block w.heap.size (by omega)).trans hbox
  -- what a round knows
  have hcell : ∀ wr : World, Below (w.heap.size + 1) W2 wr → (wr.cell? ⟨w.heap.size, 0, none⟩ = some (.int .i64 s) ∧ wr.cell? ⟨w.heap.size, 1, none⟩ = some (.slice A l.length c)) := by
    intro wr h
    have := (h.block w.heap.size (by omega)).trans hbox2
    exact ⟨blk_cell this 0, blk_cell this 1⟩
  have hlimb : ∀ (wr : World) (k : Nat), k < l.length → Below (w.heap.size + 1) W2 wr → ∃ ad, A = some ad ∧ wr.cell? (ad.add k) = some (.int .i64 (l.getD k 0)) := by
    intro wr k hk h
    obtain ⟨ad, hA, hc⟩ := Kd.at_int hC (k : Int) (by omega) (by omega)
    rw [Int.toNat_natCast, rdN] at hc
    have hlt := World.block_lt_of_cell? w _ hc
    exact ⟨ad, hA, ((h.mono (by omega)).cell hlt).trans ((hb02.cell hlt).trans hc)⟩
  have hW : W2 = (w.alloc (.cells #[.int .i64 s, .slice A l.length c] 26)).alloc (.cells #[.bool false, .slice none 0 0] 63) := by rw [hW2, hW1]
  rw [hs1] at hz2
  have HW := Lib.hid hW
  have HC := Lib.hid hcell
  have HL := Lib.hid hlimb
  have H02 := Lib.hid hb02
  have HZ2 := Lib.hid hz2
  have HD := Lib.hid hd
  have HBX := Lib.hid hbox2
  clear hW hW1 hW2 hcell hlimb hb02 hz2 hbox hbox2 hb1 hb2 hs1 hC hd
  clear W1
  -- one round: shifted, a limb put in
  have hsh : ∀ (wr : World) (k : Nat), Z wr (w.heap.size + 1) (hiv l (k + 1)) → Calls Try.prog 62 #[.pointer (some ⟨w.heap.size + 1, 0, none⟩), .pointer (some ⟨w.heap.size + 1, 0, none⟩), .int .u64 24] wr (Puts wr (w.heap.size + 1) (hiv l (k + 1) * 2 ^ 24)) := by
    intro wr k hz
    have := hiv_bl HD.out hl (k + 1)
    exact lsh (n := 24) hz.blk hz (by omega) (by omega)
  have hor : ∀ (wr : World) (k g : Nat), Z wr (w.heap.size + 1) (hiv l (k + 1) * 2 ^ 24) → Z wr g (l.getD k 0) → Calls Try.prog 73 #[.pointer (some ⟨w.heap.size + 1, 0, none⟩), .pointer (some ⟨w.heap.size + 1, 0, none⟩), .pointer (some ⟨g, 0, none⟩)] wr (Puts wr (w.heap.size + 1) (hiv l k)) := by
    intro wr k g hz hg
    have h1 := hiv_bl HD.out hl (k + 1)
    have hx := HD.out.all0 (by decide) k
    have h3 : bl (hiv l (k + 1) * 2 ^ 24).natAbs ≤ 536870912 := by
      rw [Int.natAbs_mul, show ((2 : Int) ^ 24).natAbs = 2 ^ 24 from rfl]
      have := bl_shift_le (hiv l (k + 1)).natAbs 24
      omega
    have h4 : bl (l.getD k 0).natAbs ≤ 536870912 := Nat.le_trans (bl_le (k := 24) (by omega)) (by omega)
    rw [hiv_step HD.out k]
    exact orr hz.blk hz hg h3 h4
  have hnew : ∀ (wr : World) (k : Nat), Calls Try.prog 74 #[.int .i64 (l.getD k 0)] wr (News wr (l.getD k 0)) := by
    intro wr k
    have hx := HD.out.all0 (by decide) k
    exact newInt (by omega) (by omega)
  have hfin : ∀ wr, Z wr (w.heap.size + 1) (hiv l 0) → Calls Try.prog 75 #[.pointer (some ⟨w.heap.size + 1, 0, none⟩), .pointer (some ⟨w.heap.size + 1, 0, none⟩)] wr (Puts wr (w.heap.size + 1) (-(hiv l 0))) := by
    intro wr hz
    have := hiv_bl HD.out hl 0
    exact neg hz.blk hz (by omega)
  have hout : ∀ (wr : World) (z : Int), Below (w.heap.size + 1) W2 wr → Z wr (w.heap.size + 1) z → News w z (.returned (.pointer (some ⟨w.heap.size + 1, 0, none⟩))) wr := by
    intro wr z hb hz
    exact ⟨_, rfl, hz, by omega, below_then0 H02.out (hb.mono (by omega))⟩
  have HSH := Lib.hid hsh
  have HOR := Lib.hid hor
  have HNW := Lib.hid hnew
  have HFN := Lib.hid hfin
  have HOUT := Lib.hid hout
  clear hsh hor hnew hfin hout
  have hv0 : hiv l 0 = val 16777216 l := by unfold hiv; rw [List.drop_zero]
  rw [← hv0]
  clear hv0
  by_cases hneg : s < 0
  all_goals
    go_enter Try.func37, Try.ntmps37
    go_wp2_with fail
    go_loopw [4] (fun i wr => ∃ k : Nat, i = .int .i64 ((k : Int) - 1) ∧ k ≤ l.length ∧ Hid (Z wr (w.heap.size + 1) (hiv l k)) ∧ Hid (Below (w.heap.size + 1) W2 wr)) (fun i _ => (intOf i + 1).toNat)
    case atStart =>
      refine ⟨l.length, rfl, Nat.le_refl _, Lib.hid ?_, Lib.hid ?_⟩
      · rw [← HW.out, show hiv l l.length = 0 by unfold hiv; rw [List.drop_length]; rfl]; exact HZ2.out
      · rw [← HW.out]; exact Below.refl _ _
    case round =>
      obtain ⟨k, rfl, hk, HZ, HB⟩ := hrel
      cases k with
      | zero =>
        obtain ⟨c0, c1⟩ := HC.out wr HB.out
        have HO := Lib.hid (HOUT.out wr _ HB.out HZ.out)
        have HN := Lib.hid (HFN.out wr HZ.out)
        have hlt : ((0 : Nat) : Int) - 1 = -1 := rfl
        rw [hlt]
        clear hlt
        go_wp2_with (first | (go_at_call 75; refine HN.out.mono ?_; rintro e w2 ⟨rfl, hz2, hg2⟩; have HO := Lib.hid (HOUT.out w2 _ (below_grownB HB.out (Nat.le_of_lt HZ.out.lt) hg2) hz2); clear hz2 hg2))
        go_ret
        exact HO.out
      | succ k =>
        have hlt : ((k + 1 : Nat) : Int) - 1 = (k : Int) := by omega
        rw [hlt]
        clear hlt
        go_wp2_with fail
        refine (HSH.out wr k HZ.out).mono ?_
        rintro e w2 ⟨rfl, hz2, hg2⟩
        have hb2 := below_grownB HB.out (Nat.le_of_lt HZ.out.lt) hg2
        obtain ⟨c0, c1⟩ := HC.out w2 hb2
        obtain ⟨ad, hA, hl2⟩ := HL.out w2 k (by omega) hb2
        subst hA
        have HZ3 := Lib.hid hz2
        have HB3 := Lib.hid hb2
        clear hz2 hg2 hb2 HZ HB
        go_wp2_with fail
        refine (HNW.out w2 k).mono ?_
        rintro e w3 ⟨g, rfl, hz3, hg3, hb3⟩
        have HZ4 := Lib.hid (HZ3.out.below hb3)
        have HB4 := Lib.hid (HB3.out.trans (hb3.mono (by have := HZ3.out.lt; omega)))
        have HZ5 := Lib.hid hz3
        clear hz3 hg3 hb3 HZ3 HB3 c0 c1 hl2
        go_wp2_with fail
        refine (HOR.out w3 k g HZ4.out HZ5.out).mono ?_
        rintro e w4 ⟨rfl, hz6, hg6⟩
        have HZ6 := Lib.hid hz6
        have HB6 := Lib.hid (below_grownB HB4.out (Nat.le_of_lt HZ4.out.lt) hg6)
        clear hz6 hg6
        go_wp2
        go_roundw
        case rel => exact ⟨k, rfl, by omega, HZ6, HB6⟩
        case measure => (simp [intOf]) <;> omega
end Go.Proofs.Ytfinbmnjfnajiaa.Mg
end
section
set_option linter.unusedVariables false
set_option linter.unusedSimpArgs false
namespace Go.Proofs.Ytfinbmnjfnajiaa.Mh
open Go.RowKit Go.Proofs.YtfinbmnjfnajiaaW.PrintWords Go.Proofs.Ytfinbmnjfnajiaa.PW Go.Proofs.Ytfinbmnjfnajiaa.Pc Go.Proofs.Ytfinbmnjfnajiaa.Pb Go.Proofs.Ytfinbmnjfnajiaa.Pw Go.Proofs.Ytfinbmnjfnajiaa.Ma Go.Proofs.Ytfinbmnjfnajiaa.Mb Go.Proofs.Ytfinbmnjfnajiaa.Mc Go.Proofs.Ytfinbmnjfnajiaa.Md Go.Proofs.Ytfinbmnjfnajiaa.Me Go.Proofs.Ytfinbmnjfnajiaa.Mg Dg
theorem cIs {w : World} {s : Int} {A : Option Addr} {c : Nat} {l : List Int} (hC : (Kd.int .i64).C w A l.length l) (hc : l.length ≤ c) (hm : l.length ≤ 9223372036854775807) :
    Calls Try.prog 35 #[.agg #[.int .i64 s, .slice A l.length c]] w fun e w' => e = .returned (.bool (isW s l)) ∧ Below w.heap.size w w' := by
  obtain ⟨k, hk⟩ := (iIs s l hm).rounds
  exact impl_IsWhole.calls k s A c l _ w hC hc hk
theorem cBig {w : World} {s : Int} {A : Option Addr} {c : Nat} {l : List Int} (hC : (Kd.int .i64).C w A l.length l) (h : isW s l = true) :
    Calls Try.prog 37 #[.agg #[.int .i64 s, .slice A l.length c]] w (News w (wv s l)) := by
  obtain ⟨hd, hl, _, _⟩ := isW_spec h
  exact toBig hC hd hl
theorem C_at {w w1 : World} {A : Option Addr} {l : List Int} (hC : (Kd.int .i64).C w A l.length l) (hb : Below w.heap.size w w1) : (Kd.int .i64).C w1 A l.length l := Kd.C_below hC hb
end Go.Proofs.Ytfinbmnjfnajiaa.Mh
end
section
set_option linter.unusedVariables false
set_option linter.unusedSimpArgs false
namespace Go.Proofs.Ytfinbmnjfnajiaa.Mi
open Go.RowKit Go.Proofs.YtfinbmnjfnajiaaW.PrintWords Go.Proofs.Ytfinbmnjfnajiaa.PW Go.Proofs.Ytfinbmnjfnajiaa.Pc Go.Proofs.Ytfinbmnjfnajiaa.Ma Go.Proofs.Ytfinbmnjfnajiaa.Mb Go.Proofs.Ytfinbmnjfnajiaa.Mc Go.Proofs.Ytfinbmnjfnajiaa.Md Go.Proofs.Ytfinbmnjfnajiaa.Me Dg
open Pm (sgn)
set_option maxHeartbeats 800000 in
theorem cmp {w : World} {p q : Nat} {x y : Int} (hx : Z w p x) (hy : Z w q y) (h1 : bl x.natAbs ≤ 1073741823) (h2 : bl y.natAbs ≤ 1073741823) :
    Calls Try.prog 88 #[.pointer (some ⟨p, 0, none⟩), .pointer (some ⟨q, 0, none⟩)] w (Tells w (.int .i64 (sgn (x - y)))) := by
  obtain ⟨A, c, k0, k1, hm, hp⟩ := Z.open hx
  obtain ⟨B, d, j0, j1, hn, hq⟩ := Z.open hy
  have hC := fun (W : World) (hb : Below w.heap.size w W) => cCmp (hm.below hb) (hn.below hb) (by omega) (by omega)
  have hD := fun (W : World) (hb : Below w.heap.size w W) => cCmp (hn.below hb) (hm.below hb) (by omega) (by omega)
  by_cases hxn : x < 0 <;> by_cases hyn : y < 0
  · have e : sgn ((y.natAbs : Int) - x.natAbs) = sgn (x - y) := by congr 1; omega
    rw [e] at hD
    rw [show decide (x < 0) = true by simpa using hxn] at k0
    rw [show decide (y < 0) = true by simpa using hyn] at j0
    have HD := Lib.hid hD
    clear hC hD e hxn hyn h1 h2 hm hn hx hy
    go_enter Try.func88, Try.ntmps88
    go_wp2
    go_quiet ((go_at_call 107; exact Calls.quiet_of (HD.out _ (below_drawn _))))
    go_wp2
    go_ret
    exact ⟨rfl, _, rfl⟩
  · have e : sgn (x - y) = -1 := by unfold sgn; rw [if_pos (by omega)]
    rw [e]
    rw [show decide (x < 0) = true by simpa using hxn] at k0
    rw [show decide (y < 0) = false by simpa using hyn] at j0
    clear hC hD e hxn hyn h1 h2 hm hn hx hy
    go_enter Try.func88, Try.ntmps88
    go_wp2
    go_ret
    exact ⟨rfl, 0, rfl⟩
  · have e : sgn (x - y) = 1 := by unfold sgn; rw [if_neg (by omega), if_neg (by omega)]
    rw [e]
    rw [show decide (x < 0) = false by simpa using hxn] at k0
    rw [show decide (y < 0) = true by simpa using hyn] at j0
    clear hC hD e hxn hyn h1 h2 hm hn hx hy
    go_enter Try.func88, Try.ntmps88
    go_wp2
    go_ret
    exact ⟨rfl, 0, rfl⟩
  · have e : sgn ((x.natAbs : Int) - y.natAbs) = sgn (x - y) := by congr 1; omega
    rw [e] at hC
    rw [show decide (x < 0) = false by simpa using hxn] at k0
    rw [show decide (y < 0) = false by simpa using hyn] at j0
    have HC := Lib.hid hC
    clear hC hD e hxn hyn h1 h2 hm hn hx hy
    go_enter Try.func88, Try.ntmps88
    go_wp2
    go_quiet ((go_at_call 107; exact Calls.quiet_of (HC.out _ (below_drawn _))))
    go_wp2
    go_ret
    exact ⟨rfl, _, rfl⟩
def sv (n : Bool) (m : Nat) : Int := if n = true then -(m : Int) else m
theorem sv_abs (z : Int) : sv (decide (z < 0)) z.natAbs = z := natAbs_if z
set_option maxHeartbeats 1600000 in
theorem plus {w : World} {p q : Nat} {x : Int} {neg : Bool} {B : Option Addr} {d m : Nat} (hp : Blk w p) (hx : Z w q x) (hn : Mg w B d (D m)) (h1 : bl x.natAbs ≤ 536870912) (h2 : bl m ≤ 536870912) :
    Calls Try.prog 117 #[.pointer (some ⟨p, 0, none⟩), .pointer (some ⟨q, 0, none⟩), .bool neg, .slice B (D m).length d] w (Puts w p (x + sv neg m)) := by
  obtain ⟨A, c, k0, k1, hm, hq⟩ := Z.open hx
  have hadd := bl_add_le x.natAbs m
  have hA := fun (W : World) (hb : Below w.heap.size w W) => (cAdd (hm.below hb) (hn.below hb) (by omega) (by omega)).mono fun e w' h => GivesMg.of hb h
  have hC := fun (W : World) (hb : Below w.heap.size w W) => cCmp (hm.below hb) (hn.below hb) (by omega) (by omega)
  by_cases hs : decide (x < 0) = neg
  · -- one sign
    have e : (if neg = true then -((x.natAbs + m : Nat) : Int) else ((x.natAbs + m : Nat) : Int)) = x + sv neg m := by
      rw [← sv_abs x, hs]; unfold sv
      cases neg <;> simp <;> omega
    have hP := fun (w1 : World) (A' : Option Addr) (c' : Nat) h1 h2 => put_of (w1 := w1) (A := A') (c := c') (neg := neg) (n := x.natAbs + m) hp h1 h2 (by omega)
    rw [e] at hP
    rw [hs] at k0
    have HP := Lib.hid hP
    have HA := Lib.hid hA
    clear hA hC hP e hs hadd h1 h2 hm hn hx hp
    cases neg
    all_goals
      go_enter Try.func117, Try.ntmps117
      go_wp2_with fail
      refine (HA.out _ (Below.refl _ _)).mono ?_
      rintro e w1 ⟨A', c', rfl, hm', hb'⟩
      have HPM := Lib.hid (HP.out w1 A' c' hb' hm')
      clear hm' hb'
      go_wp2_with fail
      refine HPM.out.mono ?_
      rintro e w2 ⟨rfl, hz2, hg2⟩
      have HE := Lib.hid (show Puts w p _ _ w2 from ⟨rfl, hz2, hg2⟩)
      clear hz2 hg2
      go_wp2
      go_ret
      exact HE.out
  · have hneq : neg = !decide (x < 0) := by cases neg <;> cases h : decide (x < 0) <;> simp_all
    by_cases hge : m ≤ x.natAbs
    · have hS := fun (W : World) (hb : Below w.heap.size w W) => (cSub (hm.below hb) (hn.below hb) (by omega) hge).mono fun e w' h => GivesMg.of hb h
      have hmo := bl_mono (Nat.sub_le x.natAbs m)
      have e : (if decide (x < 0) = true then -((x.natAbs - m : Nat) : Int) else ((x.natAbs - m : Nat) : Int)) = x + sv neg m := by
        rw [hneq]; unfold sv
        by_cases h : x < 0 <;> simp [h] <;> omega
      have hP := fun (w1 : World) (A' : Option Addr) (c' : Nat) h1 h2 => put_of (w1 := w1) (A := A') (c := c') (neg := decide (x < 0)) (n := x.natAbs - m) hp h1 h2 (by omega)
      rw [e] at hP
      have es : sgn ((x.natAbs : Int) - m) = sgn ((x.natAbs - m : Nat) : Int) := by congr 1; omega
      have es0 : 0 ≤ sgn ((x.natAbs : Int) - m) := by unfold sgn; split <;> (try split) <;> omega
      have HP := Lib.hid hP
      have HS := Lib.hid hS
      have HC := Lib.hid hC
      clear hA hC hP hS e hs hadd h1 h2 hm hn hx hp es hmo hge
      generalize sgn ((x.natAbs : Int) - m) = sg at *
      rw [hneq] at *
      clear hneq
      generalize decide (x < 0) = b at *
      cases b
      all_goals
        go_enter Try.func117, Try.ntmps117
        go_wp2_with fail
        refine (HC.out _ (Below.refl _ _)).mono ?_
        rintro e w1 ⟨rfl, n, rfl⟩
        go_wp2_with fail
        go_region_with (first | (go_at_call 113; refine (HS.out _ (by first | exact below_drawn _ | exact (below_drawn _).drew)).mono ?_; rintro e w1 ⟨A', c', rfl, hm', hb'⟩; have HPM := Lib.hid (HP.out w1 A' c' hb' hm'); have k0' := (hb'.cell (p := ⟨q, 0, none⟩) hq).trans k0; clear hm' hb') | (go_at_call 72; refine HPM.out.mono ?_; rintro e w2 ⟨rfl, hz2, hg2⟩; have HE := Lib.hid (show Puts w p _ _ w2 from ⟨rfl, hz2, hg2⟩); clear hz2 hg2))
        all_goals go_wp2
        all_goals go_ret
        all_goals exact HE.out
    · have hS := fun (W : World) (hb : Below w.heap.size w W) => (cSub (hn.below hb) (hm.below hb) (by omega) (by omega)).mono fun e w' h => GivesMg.of hb h
      have hmo := bl_mono (Nat.sub_le m x.natAbs)
      have e : (if neg = true then -((m - x.natAbs : Nat) : Int) else ((m - x.natAbs : Nat) : Int)) = x + sv neg m := by
        rw [hneq]; unfold sv
        by_cases h : x < 0 <;> simp [h] <;> omega
      have hP := fun (w1 : World) (A' : Option Addr) (c' : Nat) h1 h2 => put_of (w1 := w1) (A := A') (c := c') (neg := neg) (n := m - x.natAbs) hp h1 h2 (by omega)
      rw [e] at hP
      have es : sgn ((x.natAbs : Int) - m) = -1 := by unfold sgn; rw [if_pos (by omega)]
      rw [es] at hC
      have HP := Lib.hid hP
      have HS := Lib.hid hS
      have HC := Lib.hid hC
      clear hA hC hP hS e hs hadd h1 h2 hm hn hx hp es hmo hge
      rw [hneq] at *
      clear hneq
      generalize decide (x < 0) = b at *
      cases b
      all_goals
        go_enter Try.func117, Try.ntmps117
        go_wp2_with fail
        refine (HC.out _ (Below.refl _ _)).mono ?_
        rintro e w1 ⟨rfl, n, rfl⟩
        go_wp2_with fail
        refine (HS.out _ (below_drawn _)).mono ?_
        rintro e w1 ⟨A', c', rfl, hm', hb'⟩
        have HPM := Lib.hid (HP.out w1 A' c' hb' hm')
        clear hm' hb'
        go_wp2_with fail
        refine HPM.out.mono ?_
        rintro e w2 ⟨rfl, hz2, hg2⟩
        have HE := Lib.hid (show Puts w p _ _ w2 from ⟨rfl, hz2, hg2⟩)
        clear hz2 hg2
        go_wp2
        go_ret
        exact HE.out
end Go.Proofs.Ytfinbmnjfnajiaa.Mi
end
section
set_option linter.unusedVariables false
set_option linter.unusedSimpArgs false
namespace Go.Proofs.Ytfinbmnjfnajiaa.Mj
open Go.RowKit Go.Proofs.YtfinbmnjfnajiaaW.PrintWords Go.Proofs.Ytfinbmnjfnajiaa.PW Go.Proofs.Ytfinbmnjfnajiaa.Pc Go.Proofs.Ytfinbmnjfnajiaa.Ma Go.Proofs.Ytfinbmnjfnajiaa.Mb Go.Proofs.Ytfinbmnjfnajiaa.Mc Go.Proofs.Ytfinbmnjfnajiaa.Md Go.Proofs.Ytfinbmnjfnajiaa.Me Go.Proofs.Ytfinbmnjfnajiaa.Mi Dg
open Pm (sgn)
theorem Puts.of {w W w' : World} {p : Nat} {z : Int} {e : Ending} (hb : Below w.heap.size w W) (h : Puts W p z e w') : Puts w p z e w' := Mc.Puts.below hb h
set_option maxHeartbeats 1600000 in
theorem add {w : World} {p q s : Nat} {x y : Int} (hp : Blk w p) (hx : Z w q x) (hy : Z w s y) (h1 : bl x.natAbs ≤ 536870912) (h2 : bl y.natAbs ≤ 536870912) :
    Calls Try.prog 87 #[.pointer (some ⟨p, 0, none⟩), .pointer (some ⟨q, 0, none⟩), .pointer (some ⟨s, 0, none⟩)] w (Puts w p (x + y)) := by
  obtain ⟨B, d, j0, j1, hn, hs⟩ := Z.open hy
  have hP := fun (W : World) (hb : Below w.heap.size w W) => (plus (neg := decide (y < 0)) (hp.below hb) (hx.below hb) (hn.below hb) h1 h2).mono fun e w' h => Puts.of hb h
  rw [sv_abs] at hP
  have HP := Lib.hid hP
  clear hP hn h1 h2 hp hx hy
  generalize decide (y < 0) = b at *
  go_enter Try.func87, Try.ntmps87
  go_wp2
  go_region_with (go_at_call 117; refine (HP.out _ (by first | exact Below.refl _ _ | exact (Below.refl _ _).drew)).mono ?_; rintro e w2 ⟨rfl, hz2, hg2⟩; have HE := Lib.hid (show Puts w p (x + y) _ w2 from ⟨rfl, hz2, hg2⟩); clear hz2 hg2)
  all_goals go_wp2
  all_goals go_ret
  all_goals exact HE.out
end Go.Proofs.Ytfinbmnjfnajiaa.Mj
end
section
set_option linter.unusedVariables false
set_option linter.unusedSimpArgs false
namespace Go.Proofs.Ytfinbmnjfnajiaa.Mk
open Go.RowKit Go.Proofs.YtfinbmnjfnajiaaW.PrintWords Go.Proofs.Ytfinbmnjfnajiaa.PW Go.Proofs.Ytfinbmnjfnajiaa.Pc Go.Proofs.Ytfinbmnjfnajiaa.Ma Go.Proofs.Ytfinbmnjfnajiaa.Mb Go.Proofs.Ytfinbmnjfnajiaa.Mc Go.Proofs.Ytfinbmnjfnajiaa.Md Go.Proofs.Ytfinbmnjfnajiaa.Me Go.Proofs.Ytfinbmnjfnajiaa.Mi Go.Proofs.Ytfinbmnjfnajiaa.Mj Dg
open Pm (sgn)
def lw (n k : Nat) : Int := val 4294967296 (((D n).take 2).drop k)
theorem lw_zero (n : Nat) : lw n 0 = ((n % 18446744073709551616 : Nat) : Int) := by
  unfold lw
  rw [List.drop_zero]
  have := (val_div_mod (by decide) (D_dig n) 2).2
  rw [D_val] at this
  rw [← this]
  rfl
theorem lw_end (n k : Nat) (h : 2 ≤ k ∨ (D n).length ≤ k) : lw n k = 0 := by
  unfold lw
  rw [List.drop_of_length_le (by simp; omega)]
  rfl
theorem lw_bd (n k : Nat) (h : 0 < k) : 0 ≤ lw n k ∧ lw n k < 4294967296 := by
  unfold lw
  have hd := ((D_dig n).take 2).drop k
  have h1 := val_nonneg hd
  have h2 := val_lt (by decide) hd
  refine ⟨h1, ?_⟩
  have h3 : (((D n).take 2).drop k).length ≤ 1 := by simp; omega
  have h4 : ((4294967296 : Nat) : Int) ^ (((D n).take 2).drop k).length ≤ 4294967296 := by
    rcases Nat.lt_or_ge (((D n).take 2).drop k).length 1 with h | h
    · have : (((D n).take 2).drop k).length = 0 := by omega
      rw [this]; decide
    · have : (((D n).take 2).drop k).length = 1 := by omega
      rw [this]; decide
  omega
theorem lw_step (n k : Nat) (h : k < 2) (hk : k < (D n).length) : bits .or .u64 (IntKind.u64.wrap (lw n (k + 1) * 4294967296)) ((D n).getD k 0) = lw n k := by
  have hb := lw_bd n (k + 1) (by omega)
  have hd := (D_dig n).all0 (by decide) k
  have e : lw n k = (D n).getD k 0 + 4294967296 * lw n (k + 1) := by
    unfold lw
    have := val_drop' (B := 4294967296) ((D n).take 2) k
    rw [this]
    congr 1
    simp [List.getD, List.getElem?_take, h]
  rw [Pn.u64_id (by omega) (by omega), e]
  have := Po.or_high (x := (D n).getD k 0) (y := lw n (k + 1)) hd.1 (by omega) hb.1 hb.2
  rw [← this]
  obtain ⟨a, ha⟩ := Int.eq_ofNat_of_zero_le hd.1
  obtain ⟨b, hb'⟩ := Int.eq_ofNat_of_zero_le hb.1
  have hd2 : a < 4294967296 := by have := hd.2; omega
  have hb2 : b < 4294967296 := by have := hb.2; omega
  rw [ha, hb']
  have e2 : (b : Int) * 4294967296 = ((b * 4294967296 : Nat) : Int) := by simp
  have h1 : a < 2 ^ 64 := by omega
  have h2 : b * 4294967296 < 2 ^ 64 := by omega
  rw [e2, (bits_nat .u64 64 (by decide) Po.wraps_u64 _ _ h2 h1).2, (bits_nat .u64 64 (by decide) Po.wraps_u64 _ _ h1 h2).2, Nat.or_comm]
set_option maxHeartbeats 1600000 in
theorem low {w : World} {q : Nat} {z : Int} (hz : Z w q z) : Calls Try.prog 112 #[.pointer (some ⟨q, 0, none⟩)] w fun e w' => e = .returned (.int .u64 ((z.natAbs % 18446744073709551616 : Nat) : Int)) ∧ w = w' := by
  obtain ⟨A, c, k0, k1, hm, hq⟩ := Z.open hz
  have hres := lw_zero z.natAbs
  have hcell : ∀ k, k < (D z.natAbs).length → ∃ ad, A = some ad ∧ w.cell? (ad.add k) = some (.int .u32 ((D z.natAbs).getD k 0)) := fun k hk => by
    obtain ⟨ad, hA, hc⟩ := Kd.at_int hm.1 (k : Int) (by omega) (by omega)
    rw [Int.toNat_natCast, rdN] at hc
    exact ⟨ad, hA, hc⟩
  have hmax : (D z.natAbs).length ≤ 9223372036854775807 := hm.1.2.1
  have hst := fun k h1 h2 => lw_step z.natAbs k h1 h2
  have hen := fun k h => lw_end z.natAbs k h
  have hdd := (D_dig z.natAbs).all0 (by decide)
  have hlb := fun k h => lw_bd z.natAbs k h
  have HR := Lib.hid hres
  have HC := Lib.hid hcell
  have HS := Lib.hid hst
  have HE := Lib.hid hen
  have HD := Lib.hid hdd
  have HLB := Lib.hid hlb
  clear hres hcell hm hz hst hen hdd hlb
  generalize hln : (D z.natAbs).length = n at *
  clear hln
  obtain ⟨m, hm2, hmn, hmm⟩ : ∃ m : Nat, m ≤ 2 ∧ m ≤ n ∧ (2 ≤ m ∨ n ≤ m) := ⟨min n 2, by omega, by omega, by omega⟩
  have hst0 : lw z.natAbs m = 0 := HE.out m hmm
  have HST := Lib.hid hst0
  clear hst0
  by_cases hlt : n < 2
  · obtain rfl : n = m := by omega
    go_enter Try.func112, Try.ntmps112
    go_wp2_with fail
    go_loop [3, 4] (fun u i => ∃ k : Nat, k ≤ n ∧ i = .int .i64 ((k : Int) - 1) ∧ u = .int .u64 (lw z.natAbs k)) (fun _ i => (intOf i + 1).toNat)
    case atStart => exact ⟨n, Nat.le_refl _, rfl, by rw [HST.out]⟩
    case round =>
      obtain ⟨k, hk, rfl, rfl⟩ := hrel
      cases k with
      | zero =>
        have e : ((0 : Nat) : Int) - 1 = -1 := rfl
        rw [e]
        go_wp2
        go_ret
        exact ⟨by show Ending.returned (Value.int .u64 (lw z.natAbs 0)) = _; rw [HR.out]; simp, rfl⟩
      | succ k =>
        have e : ((k + 1 : Nat) : Int) - 1 = (k : Int) := by omega
        rw [e]
        clear e
        obtain ⟨ad, hA, hc⟩ := HC.out k (by omega)
        subst hA
        have hs := Lib.hid (HS.out k (by omega) (by omega))
        have hd := HD.out k
        have hb := HLB.out (k + 1) (by omega)
        have hx := Pn.u64_id (n := lw z.natAbs (k + 1) * 4294967296) (by omega) (by omega)
        have hs2 := hs.out
        rw [hx] at hs2
        have HS2 := Lib.hid hs2
        clear hs hs2 hx
        generalize hl1 : lw z.natAbs (k + 1) = l1 at *
        generalize hd1 : (D z.natAbs).getD k 0 = d1 at *
        clear hl1 hd1
        go_wp2
        go_round
        case rel => exact ⟨k, by omega, rfl, by rw [HS2.out]⟩
        case measure => (simp [intOf]) <;> omega
  · obtain rfl : m = 2 := by omega
    by_cases hn2 : n = 2
    · subst hn2
      go_enter Try.func112, Try.ntmps112
      go_wp2_with fail
      go_loop [3, 4] (fun u i => ∃ k : Nat, k ≤ 2 ∧ i = .int .i64 ((k : Int) - 1) ∧ u = .int .u64 (lw z.natAbs k)) (fun _ i => (intOf i + 1).toNat)
      case atStart => exact ⟨2, Nat.le_refl _, rfl, by rw [HST.out]⟩
      case round =>
        obtain ⟨k, hk, rfl, rfl⟩ := hrel
        cases k with
        | zero =>
          have e : ((0 : Nat) : Int) - 1 = -1 := rfl
          rw [e]
          go_wp2
          go_ret
          exact ⟨by show Ending.returned (Value.int .u64 (lw z.natAbs 0)) = _; rw [HR.out]; simp, rfl⟩
        | succ k =>
          have e : ((k + 1 : Nat) : Int) - 1 = (k : Int) := by omega
          rw [e]
          clear e
          obtain ⟨ad, hA, hc⟩ := HC.out k (by omega)
          subst hA
          have hs := Lib.hid (HS.out k (by omega) (by omega))
          have hd := HD.out k
          have hb := HLB.out (k + 1) (by omega)
          have hx := Pn.u64_id (n := lw z.natAbs (k + 1) * 4294967296) (by omega) (by omega)
          have hs2 := hs.out
          rw [hx] at hs2
          have HS2 := Lib.hid hs2
          clear hs hs2 hx
          generalize hl1 : lw z.natAbs (k + 1) = l1 at *
          generalize hd1 : (D z.natAbs).getD k 0 = d1 at *
          clear hl1 hd1
          go_wp2
          go_round
          case rel => exact ⟨k, by omega, rfl, by rw [HS2.out]⟩
          case measure => (simp [intOf]) <;> omega

    · have hn3 : 2 < n := by omega
      clear hlt
      go_enter Try.func112, Try.ntmps112
      go_wp2_with fail
      go_loop [3, 4] (fun u i => ∃ k : Nat, k ≤ 2 ∧ i = .int .i64 ((k : Int) - 1) ∧ u = .int .u64 (lw z.natAbs k)) (fun _ i => (intOf i + 1).toNat)
      case atStart => exact ⟨2, Nat.le_refl _, rfl, by rw [HST.out]⟩
      case round =>
        obtain ⟨k, hk, rfl, rfl⟩ := hrel
        cases k with
        | zero =>
          have e : ((0 : Nat) : Int) - 1 = -1 := rfl
          rw [e]
          go_wp2
          go_ret
          exact ⟨by show Ending.returned (Value.int .u64 (lw z.natAbs 0)) = _; rw [HR.out]; simp, rfl⟩
        | succ k =>
          have e : ((k + 1 : Nat) : Int) - 1 = (k : Int) := by omega
          rw [e]
          clear e
          obtain ⟨ad, hA, hc⟩ := HC.out k (by omega)
          subst hA
          have hs := Lib.hid (HS.out k (by omega) (by omega))
          have hd := HD.out k
          have hb := HLB.out (k + 1) (by omega)
          have hx := Pn.u64_id (n := lw z.natAbs (k + 1) * 4294967296) (by omega) (by omega)
          have hs2 := hs.out
          rw [hx] at hs2
          have HS2 := Lib.hid hs2
          clear hs hs2 hx
          generalize hl1 : lw z.natAbs (k + 1) = l1 at *
          generalize hd1 : (D z.natAbs).getD k 0 = d1 at *
          clear hl1 hd1
          go_wp2
          go_round
          case rel => exact ⟨k, by omega, rfl, by rw [HS2.out]⟩
          case measure => (simp [intOf]) <;> omega
theorem natAbs_mod {z : Int} (h0 : -9223372036854775808 ≤ z) (h1 : z ≤ 9223372036854775807) : ((z.natAbs % 18446744073709551616 : Nat) : Int) = z.natAbs := by omega
set_option maxHeartbeats 800000 in
theorem int64 {w : World} {q : Nat} {z : Int} (hz : Z w q z) (h0 : -9223372036854775808 ≤ z) (h1 : z ≤ 9223372036854775807) : Calls Try.prog 80 #[.pointer (some ⟨q, 0, none⟩)] w fun e w' => e = .returned (.int .i64 z) ∧ w = w' := by
  obtain ⟨A, c, k0, k1, hm, hq⟩ := Z.open hz
  have hl := low hz
  rw [natAbs_mod h0 h1] at hl
  have HL := Lib.hid hl
  clear hl hm hz
  by_cases hn : z < 0
  · have e : IntKind.i64.wrap (-(IntKind.i64.wrap (z.natAbs : Int))) = z := by rw [IntKind.wrap_i64, IntKind.wrap_i64]; omega
    have e2 : wrap64 (-(wrap64 (z.natAbs : Int))) = z := by unfold wrap64; omega
    rw [show decide (z < 0) = true by simpa using hn] at k0
    have E := Lib.hid e2
    clear e e2 h0 h1 hn
    generalize (z.natAbs : Int) = a at *
    go_enter Try.func80, Try.ntmps80
    go_wp2_with fail
    refine HL.out.mono ?_
    rintro e w1 ⟨rfl, rfl⟩
    go_wp2
    go_ret
    exact ⟨by rw [← E.out]; rfl, rfl⟩
  · have e2 : wrap64 (z.natAbs : Int) = z := by unfold wrap64; omega
    rw [show decide (z < 0) = false by simpa using hn] at k0
    have E := Lib.hid e2
    clear e2 h0 h1 hn
    generalize (z.natAbs : Int) = a at *
    go_enter Try.func80, Try.ntmps80
    go_wp2_with fail
    refine HL.out.mono ?_
    rintro e w1 ⟨rfl, rfl⟩
    go_wp2
    go_ret
    exact ⟨by rw [← E.out]; rfl, rfl⟩
theorem D_one : D 1 = [1] := by
  have := D_of (l := [1]) (Dig.cons (by decide) (by decide) Dig.nil) (by intro _ h; simp at h)
  exact this
theorem Mg_one {w : World} : Mg (w.alloc (.cells #[.int .u32 1] 110)) (some ⟨w.heap.size, 0, none⟩) 1 (D 1) := by
  rw [D_one]
  exact Mg.row (xs := [1]) (heap_alloc_new w _) rfl (by simp)
theorem shr_neg {z : Int} (hz : z < 0) (n : Nat) : -(((z.natAbs - 1) / 2 ^ n + 1 : Nat) : Int) = z / 2 ^ n := by
  obtain ⟨m, hm⟩ : ∃ m : Nat, z = Int.negSucc m := ⟨z.natAbs - 1, by omega⟩
  subst hm
  have e : ((2 : Int) ^ n) = ((2 ^ n : Nat) : Int) := by simp
  rw [Int.negSucc_ediv _ (by rw [e]; have := Nat.two_pow_pos n; omega), e]
  show -(((m + 1 - 1) / 2 ^ n + 1 : Nat) : Int) = _
  rw [Nat.add_sub_cancel]
  rfl
theorem shr_pos {z : Int} (hz : ¬ z < 0) (n : Nat) : ((z.natAbs / 2 ^ n : Nat) : Int) = z / 2 ^ n := by
  have e : ((2 : Int) ^ n) = ((2 ^ n : Nat) : Int) := by simp
  obtain ⟨m, rfl⟩ := Int.eq_ofNat_of_zero_le (show 0 ≤ z by omega)
  rw [e, Int.natAbs_natCast]
  rfl
set_option maxHeartbeats 1600000 in
theorem rsh {w : World} {p q : Nat} {z : Int} {n : Nat} (hp : Blk w p) (hz : Z w q z) (h1 : bl z.natAbs ≤ 268435456) (h2 : n ≤ 268435456) :
    Calls Try.prog 81 #[.pointer (some ⟨p, 0, none⟩), .pointer (some ⟨q, 0, none⟩), .int .u64 n] w (Puts w p (z / 2 ^ n)) := by
  obtain ⟨A, c, k0, k1, hm, hq⟩ := Z.open hz
  by_cases hn : z < 0
  · have b1 := bl_mono (Nat.sub_le z.natAbs 1)
    have b2 := bl_mono (Nat.div_le_self (z.natAbs - 1) (2 ^ n))
    have b3 := bl_add_le ((z.natAbs - 1) / 2 ^ n) 1
    have b4 : bl 1 = 1 := rfl
    have hS := fun (W : World) (hb : Below w.heap.size w W) => (cSub ((hm.below hb).below (below_alloc W _)) (Mg_one (w := W)) (by omega) (by omega)).mono fun e w' h => GivesMg.of (below_then hb (below_alloc W _)) h
    have hR := fun (W : World) (A' : Option Addr) (c' : Nat) (hb : Below w.heap.size w W) (hm' : Mg W A' c' (D (z.natAbs - 1))) => (cRight hm' (n := n) (by omega) (by omega)).mono fun e w' h => GivesMg.of hb h
    have hA := fun (W : World) (A' : Option Addr) (c' : Nat) (hb : Below w.heap.size w W) (hm' : Mg W A' c' (D ((z.natAbs - 1) / 2 ^ n))) => (cAdd (hm'.below (below_alloc W _)) (Mg_one (w := W)) (by omega) (by omega)).mono fun e w' h => GivesMg.of (below_then hb (below_alloc W _)) h
    have hP := fun (w1 : World) (A' : Option Addr) (c' : Nat) h1 h2 => put_of (w1 := w1) (A := A') (c := c') (neg := true) (n := (z.natAbs - 1) / 2 ^ n + 1) hp h1 h2 (by omega)
    simp only [if_true] at hP
    rw [shr_neg hn] at hP
    rw [show decide (z < 0) = true by simpa using hn] at k0
    have l1 : (D 1).length = 1 := by rw [D_one]; rfl
    rw [l1] at hS hA
    have HS := Lib.hid hS
    have HR := Lib.hid hR
    have HA := Lib.hid hA
    have HP := Lib.hid hP
    clear hS hR hA hP b1 b2 b3 b4 h1 h2 hm hp hz hn l1
    go_enter Try.func81, Try.ntmps81
    go_wp2_with fail
    refine (HS.out _ (Below.refl _ _)).mono ?_
    rintro e w1 ⟨A1, c1, rfl, hm1, hb1⟩
    have HR1 := Lib.hid (HR.out w1 A1 c1 hb1 hm1)
    clear hm1 hb1
    go_wp2_with fail
    refine HR1.out.mono ?_
    rintro e w2 ⟨A2, c2, rfl, hm2, hb2⟩
    have HA1 := Lib.hid (HA.out w2 A2 c2 hb2 hm2)
    clear hm2 hb2
    go_wp2_with fail
    refine HA1.out.mono ?_
    rintro e w3 ⟨A3, c3, rfl, hm3, hb3⟩
    have HP1 := Lib.hid (HP.out w3 A3 c3 hb3 hm3)
    clear hm3 hb3
    go_wp2_with fail
    refine HP1.out.mono ?_
    rintro e w4 ⟨rfl, hz2, hg2⟩
    have HE := Lib.hid (show Puts w p (z / 2 ^ n) _ w4 from ⟨rfl, hz2, hg2⟩)
    clear hz2 hg2
    go_wp2
    go_ret
    exact HE.out
  · have b2 := bl_mono (Nat.div_le_self z.natAbs (2 ^ n))
    have hR := fun (W : World) (hb : Below w.heap.size w W) => (cRight (hm.below hb) (n := n) (by omega) (by omega)).mono fun e w' h => GivesMg.of hb h
    have hP := fun (w1 : World) (A' : Option Addr) (c' : Nat) h1 h2 => put_of (w1 := w1) (A := A') (c := c') (neg := false) (n := z.natAbs / 2 ^ n) hp h1 h2 (by omega)
    simp only [Bool.false_eq_true, if_false] at hP
    rw [shr_pos hn] at hP
    rw [show decide (z < 0) = false by simpa using hn] at k0
    have HR := Lib.hid hR
    have HP := Lib.hid hP
    clear hR hP b2 h1 h2 hm hp hz hn
    go_enter Try.func81, Try.ntmps81
    go_wp2_with fail
    refine (HR.out _ (Below.refl _ _)).mono ?_
    rintro e w1 ⟨A1, c1, rfl, hm1, hb1⟩
    have HP1 := Lib.hid (HP.out w1 A1 c1 hb1 hm1)
    clear hm1 hb1
    go_wp2_with fail
    refine HP1.out.mono ?_
    rintro e w4 ⟨rfl, hz2, hg2⟩
    have HE := Lib.hid (show Puts w p (z / 2 ^ n) _ w4 from ⟨rfl, hz2, hg2⟩)
    clear hz2 hg2
    go_wp2
    go_ret
    exact HE.out
def shf (z k : Int) : Int := if 0 ≤ k then z * 2 ^ k.toNat else z / 2 ^ (-k).toNat
set_option maxHeartbeats 800000 in
theorem shifted {w : World} {q : Nat} {z k : Int} (hz : Z w q z) (h1 : bl z.natAbs ≤ 134217728) (h2 : -134217728 ≤ k) (h3 : k ≤ 134217728) :
    Calls Try.prog 104 #[.pointer (some ⟨q, 0, none⟩), .int .i64 k] w (News w (shf z k)) := by
  by_cases hk : 0 ≤ k
  · have hL := lsh (p := w.heap.size) (n := k.toNat) (Z.new w).blk (hz.below (below_alloc w _)) (by omega) (by omega)
    rw [show ((k.toNat : Nat) : Int) = k by omega] at hL
    have e : shf z k = z * 2 ^ k.toNat := by unfold shf; rw [if_pos hk]
    rw [e]
    clear e
    have HL := Lib.hid hL
    clear hL hz h1
    go_enter Try.func104, Try.ntmps104
    go_wp2_with fail
    refine HL.out.mono ?_
    intro e w1 hp
    have hN := Lib.hid (Mc.Puts.news hp)
    obtain ⟨rfl, hz, hg⟩ := hp
    clear hz hg
    go_wp2
    go_ret
    exact hN.out
  · have hL := rsh (p := w.heap.size) (n := (-k).toNat) (Z.new w).blk (hz.below (below_alloc w _)) (by omega) (by omega)
    rw [show (((-k).toNat : Nat) : Int) = -k by omega] at hL
    have e : shf z k = z / 2 ^ (-k).toNat := by unfold shf; rw [if_neg hk]
    rw [e]
    clear e
    have HL := Lib.hid hL
    clear hL hz h1
    go_enter Try.func104, Try.ntmps104
    go_wp2_with fail
    refine HL.out.mono ?_
    intro e w1 hp
    have hN := Lib.hid (Mc.Puts.news hp)
    obtain ⟨rfl, hz, hg⟩ := hp
    clear hz hg
    go_wp2
    go_ret
    exact hN.out
end Go.Proofs.Ytfinbmnjfnajiaa.Mk
end
section
set_option linter.unusedVariables false
set_option linter.unusedSimpArgs false
namespace Go.Proofs.Ytfinbmnjfnajiaa.Ml
open Go.RowKit Go.Proofs.YtfinbmnjfnajiaaW.PrintWords Go.Proofs.YtfinbmnjfnajiaaW.PrintLast Go.Proofs.YtfinbmnjfnajiaaW.PrintMore Go.Proofs.Ytfinbmnjfnajiaa.PW Go.Proofs.Ytfinbmnjfnajiaa.Pc Go.Proofs.Ytfinbmnjfnajiaa.Ma Go.Proofs.Ytfinbmnjfnajiaa.Mb Go.Proofs.Ytfinbmnjfnajiaa.Mc Go.Proofs.Ytfinbmnjfnajiaa.Md Go.Proofs.Ytfinbmnjfnajiaa.Me Go.Proofs.Ytfinbmnjfnajiaa.Mi Go.Proofs.Ytfinbmnjfnajiaa.Mj Go.Proofs.Ytfinbmnjfnajiaa.Mk Dg
theorem D_and (a b i : Nat) : (D (a &&& b)).getD i 0 = (((a / 4294967296 ^ i % 4294967296) &&& (b / 4294967296 ^ i % 4294967296) : Nat) : Int) := by
  rw [D_getD]
  congr 1
  rw [show (4294967296 : Nat) = 2 ^ 32 from rfl, ← Nat.pow_mul]
  have h1 : (a &&& b) / 2 ^ (32 * i) = a / 2 ^ (32 * i) &&& b / 2 ^ (32 * i) := by
    rw [← Nat.shiftRight_eq_div_pow, ← Nat.shiftRight_eq_div_pow, ← Nat.shiftRight_eq_div_pow, Nat.shiftRight_and_distrib]
  rw [h1, Nat.and_mod_two_pow]
def andl (a b k : Nat) : List Int := (List.range k).map fun j => bits .and .u32 ((D a).getD j 0) ((D b).getD j 0)
theorem andl_len (a b k : Nat) : (andl a b k).length = k := by unfold andl; simp
theorem andl_succ (a b k : Nat) : andl a b (k + 1) = andl a b k ++ [bits .and .u32 ((D a).getD k 0) ((D b).getD k 0)] := by unfold andl; rw [List.range_succ, List.map_append]; rfl
theorem and_digit (a b j : Nat) : bits .and .u32 ((D a).getD j 0) ((D b).getD j 0) = (((a &&& b) / 4294967296 ^ j % 4294967296 : Nat) : Int) := by
  rw [← D_getD, D_and, D_getD, D_getD]
  exact (bits_nat .u32 32 (by decide) Po.wraps_u32 _ _ (Nat.mod_lt _ (by decide)) (Nat.mod_lt _ (by decide))).1
theorem andl_done (a b m : Nat) (hm : (D a).length ≤ m ∨ (D b).length ≤ m) : Dig 4294967296 (andl a b m) ∧ val 4294967296 (andl a b m) = ((a &&& b : Nat) : Int) := by
  have h2 : ∀ j, j < (andl a b m).length → (andl a b m).getD j 0 = (((a &&& b) / 4294967296 ^ j % 4294967296 : Nat) : Int) := by
    intro j hj
    rw [andl_len] at hj
    rw [← and_digit]
    unfold andl
    simp [List.getD, hj]
  constructor
  · exact dig_of_getD fun j hj => by rw [h2 j hj]; have := Nat.mod_lt ((a &&& b) / 4294967296 ^ j) (show 0 < 4294967296 by decide); omega
  · rw [val_digits (by decide) _ (a &&& b) h2, andl_len]
    congr 1
    apply Nat.mod_eq_of_lt
    have e : (4294967296 : Nat) = 2 ^ 32 := rfl
    rw [e, ← Nat.pow_mul]
    rcases hm with h | h
    · refine Nat.lt_of_le_of_lt Nat.and_le_left (Nat.lt_of_lt_of_le (lt_bl a) (Nat.pow_le_pow_right (by decide) ?_))
      have := D_bl a
      omega
    · refine Nat.lt_of_le_of_lt Nat.and_le_right (Nat.lt_of_lt_of_le (lt_bl b) (Nat.pow_le_pow_right (by decide) ?_))
      have := D_bl b
      omega
set_option maxHeartbeats 1600000 in
set_option maxRecDepth 100000 in
theorem andd {w : World} {p q s : Nat} {x y : Int} (hp : Blk w p) (hx : Z w q x) (hy : Z w s y) (h1 : bl x.natAbs ≤ 536870912) (h2 : bl y.natAbs ≤ 536870912) :
    Calls Try.prog 79 #[.pointer (some ⟨p, 0, none⟩), .pointer (some ⟨q, 0, none⟩), .pointer (some ⟨s, 0, none⟩)] w (Puts w p ((x.natAbs &&& y.natAbs : Nat) : Int)) := by
  obtain ⟨A, c, k0, k1, hm, hq⟩ := Z.open hx
  obtain ⟨B, d, j0, j1, hn, hs⟩ := Z.open hy
  have hl1 := D_len x.natAbs
  have hl2 := D_len y.natAbs
  have hca : ∀ (k : Nat) (wr : World), k < (D x.natAbs).length → Below w.heap.size w wr → ∃ ad, A = some ad ∧ wr.cell? (ad.add k) = some (.int .u32 ((D x.natAbs).getD k 0)) := fun k wr hk hb => by
    obtain ⟨ad, hA, hc⟩ := Kd.at_int hm.1 (k : Int) (by omega) (by omega)
    rw [Int.toNat_natCast, rdN] at hc
    exact ⟨ad, hA, (hb.cell (World.block_lt_of_cell? w _ hc)).trans hc⟩
  have hcb : ∀ (k : Nat) (wr : World), k < (D y.natAbs).length → Below w.heap.size w wr → ∃ ad, B = some ad ∧ wr.cell? (ad.add k) = some (.int .u32 ((D y.natAbs).getD k 0)) := fun k wr hk hb => by
    obtain ⟨ad, hA, hc⟩ := Kd.at_int hn.1 (k : Int) (by omega) (by omega)
    rw [Int.toNat_natCast, rdN] at hc
    exact ⟨ad, hA, (hb.cell (World.block_lt_of_cell? w _ hc)).trans hc⟩
  have hcc : ∀ wr, Below w.heap.size w wr → (wr.cell? ⟨q, 1, none⟩ = some (.slice A (D x.natAbs).length c) ∧ wr.cell? ⟨s, 1, none⟩ = some (.slice B (D y.natAbs).length d)) := fun wr hb =>
    ⟨(hb.cell (p := ⟨q, 1, none⟩) hq).trans k1, (hb.cell (p := ⟨s, 1, none⟩) hs).trans j1⟩
  have hfin : ∀ (m : Nat) (v : Value) (wr : World), ((D x.natAbs).length ≤ m ∨ (D y.natAbs).length ≤ m) → m ≤ 536870912 → Kd.R (Kd.int .u32) 110 wr w.heap.size (fun _ => True) v (andl x.natAbs y.natAbs m) → Below w.heap.size w wr →
      Calls Try.prog 72 #[.pointer (some ⟨p, 0, none⟩), .bool false, v] wr (Puts w p ((x.natAbs &&& y.natAbs : Nat) : Int)) := by
    intro m v wr hmm hm2 hR hb
    obtain ⟨A', c', rfl⟩ := Kd.R_slice hR
    have hr := Kd.R_reads' hR
    obtain ⟨hd, hv⟩ := andl_done _ _ _ hmm
    have := put (neg := false) (hp.below hb) (xs := andl x.natAbs y.natAbs m) ⟨hr.2.2, hr.2.1⟩ hd (by rw [andl_len]; omega)
    refine this.mono fun e w' h => ?_
    rw [hv] at h
    exact Mc.Puts.below hb h
  have HF := Lib.hid hfin
  have HCA := Lib.hid hca
  have HCB := Lib.hid hcb
  have HCC := Lib.hid hcc
  clear hfin hca hcb hcc hp hx hy hm hn
  generalize hla : (D x.natAbs).length = la at *
  generalize hlb : (D y.natAbs).length = lb at *
  clear hla hlb
  obtain ⟨m, hm1, hm2, hm3⟩ : ∃ m : Nat, m ≤ la ∧ m ≤ lb ∧ (la ≤ m ∨ lb ≤ m) := ⟨min la lb, by omega, by omega, by omega⟩
  have HM3 := Lib.hid hm3
  have HB := Aside0.mk (Below.refl w.heap.size w)
  have Ny0 := Aside0.mk (show ([] : List Int) = andl x.natAbs y.natAbs 0 from rfl)
  have hl1' : la ≤ 536870912 := by omega
  have hl2' : lb ≤ 536870912 := by omega
  clear hl1 hl2 h1 h2
  by_cases hlt : la < lb
  · obtain rfl : la = m := by omega
    clear hm1 hm3
    go_enter Try.func79, Try.ntmps79
    go_wp2_with ((with_reducible refine gate_dst (N := 9) rfl ?_); refine Kd.R_lit (Kd.int .u32) _ 110 ?hg (N := 9) ?hd (xs := ([] : List Int)) (inner := []) (ok := fun _ => True) (okp := fun _ => True) ?hr ?hp (fun _ hk => hk) trivial (Below.refl _ _) (Nat.le_refl _) (by simp) ?_; (case hd => rfl); (case hg => rfl); (case hr => first | (go_simp; done) | (go_simp; rfl)); (case hp => exact (Reps.none _ _)); intro v168 w3 ho4 hb hg_ hnew_; clear hg_ hnew_; rw [Ny0.out] at ho4; have n0_ := Aside0.mk (Kd.R_lower ho4 (Nat.le_refl _)); have n1_ := Aside0.mk hb; clear HB; have HO := n0_; have HB := n1_; obtain ⟨cx, cy⟩ := HCC.out w3 hb; clear n0_ n1_; clear hb ho4)
    go_region
    go_wp2_with fail
    go_loopw [7, 21] (fun v i wr => ∃ k : Nat, i = .int .i64 k ∧ k ≤ la ∧ Aside0 (Kd.R (Kd.int .u32) 110 wr w.heap.size (fun _ => True) v (andl x.natAbs y.natAbs k)) ∧ Aside0 (Below w.heap.size w wr)) (fun _ i _ => la - (intOf i).toNat)
    case atStart => exact ⟨0, rfl, by omega, ⟨by (with_reducible repeat (first | apply Kd.R_alloc | apply Kd.R_drewN | apply Kd.R_drew)); exact HO.out⟩, ⟨HB.out.drew⟩⟩
    case round =>
      clear HO HB cx cy
      obtain ⟨k, rfl, hk, HO, HB⟩ := hrel
      obtain ⟨cx, cy⟩ := HCC.out wr HB.out
      by_cases hkm : k < la
      · obtain ⟨ad, hA, ca⟩ := HCA.out k wr (by omega) HB.out
        obtain ⟨bd, hB, cb⟩ := HCB.out k wr (by omega) HB.out
        subst hA
        subst hB
        have HS := Aside0.mk (andl_succ x.natAbs y.natAbs k).symm
        have HLN := Aside0.mk (show ((andl x.natAbs y.natAbs k).length + 1) * 4 ≤ 140737488355328 by rw [andl_len]; omega)
        have hka : (k : Int) < (la : Int) := by omega
        have hkb : (k : Int) < (lb : Int) := by omega
        generalize (D x.natAbs).getD k 0 = u at *
        generalize (D y.natAbs).getD k 0 = v at *
        go_wp2_with fail
        go_region_law (refine Kd.R_append_step (Kd.int .u32) (w0 := w) w.heap.size (by rfl) (.tmp 24) (.tmp 40) 61 110 (.int .u32 0) 4 rfl Try.underlying61 infoU rfl (by decide) (by omega) _ (andl x.natAbs y.natAbs k) (bits .and .u32 u v) [.int .u32 (bits .and .u32 u v)] (fun _ => True) (fun _ => False) rfl rfl rfl (fun _ hk => hk.elim) (fun _ _ => trivial) (Kd.R_drew HO.out) HB.out.drew HB.out.size HLN.out ?_; intro v1 w1 ho hb hg hat; rw [HS.out] at ho; have HO1 := Aside0.mk ho; have HB1 := Aside0.mk hb; clear ho hb hg hat HO HB)
        all_goals go_wp2
        all_goals go_roundw
        all_goals first | exact ⟨k + 1, by go_num, by omega, HO1, HB1⟩ | ((simp [intOf]) <;> omega)
      · obtain rfl : la = k := by omega
        have HC := Lib.hid (HF.out la _ wr HM3.out (by omega) HO.out HB.out)
        clear HO HB
        go_wp2_with (go_at_call 72; refine HC.out.mono ?_; rintro e w2 ⟨rfl, hz2, hg2⟩; have HE := Lib.hid (show Puts w p ((x.natAbs &&& y.natAbs : Nat) : Int) _ w2 from ⟨rfl, hz2, hg2⟩); clear hz2 hg2)
        go_ret
        exact HE.out
  · by_cases hlt2 : lb < la
    · obtain rfl : lb = m := by omega
      clear hm1 hm3
      go_enter Try.func79, Try.ntmps79
      go_wp2_with ((with_reducible refine gate_dst (N := 9) rfl ?_); refine Kd.R_lit (Kd.int .u32) _ 110 ?hg (N := 9) ?hd (xs := ([] : List Int)) (inner := []) (ok := fun _ => True) (okp := fun _ => True) ?hr ?hp (fun _ hk => hk) trivial (Below.refl _ _) (Nat.le_refl _) (by simp) ?_; (case hd => rfl); (case hg => rfl); (case hr => first | (go_simp; done) | (go_simp; rfl)); (case hp => exact (Reps.none _ _)); intro v168 w3 ho4 hb hg_ hnew_; clear hg_ hnew_; rw [Ny0.out] at ho4; have n0_ := Aside0.mk (Kd.R_lower ho4 (Nat.le_refl _)); have n1_ := Aside0.mk hb; clear HB; have HO := n0_; have HB := n1_; obtain ⟨cx, cy⟩ := HCC.out w3 hb; clear n0_ n1_; clear hb ho4)
      go_region
      go_wp2_with fail
      go_loopw [7, 21] (fun v i wr => ∃ k : Nat, i = .int .i64 k ∧ k ≤ lb ∧ Aside0 (Kd.R (Kd.int .u32) 110 wr w.heap.size (fun _ => True) v (andl x.natAbs y.natAbs k)) ∧ Aside0 (Below w.heap.size w wr)) (fun _ i _ => lb - (intOf i).toNat)
      case atStart => exact ⟨0, rfl, by omega, ⟨by (with_reducible repeat (first | apply Kd.R_alloc | apply Kd.R_drewN | apply Kd.R_drew)); exact HO.out⟩, ⟨HB.out.drew⟩⟩
      case round =>
        clear HO HB cx cy
        obtain ⟨k, rfl, hk, HO, HB⟩ := hrel
        obtain ⟨cx, cy⟩ := HCC.out wr HB.out
        by_cases hkm : k < lb
        · obtain ⟨ad, hA, ca⟩ := HCA.out k wr (by omega) HB.out
          obtain ⟨bd, hB, cb⟩ := HCB.out k wr (by omega) HB.out
          subst hA
          subst hB
          have HS := Aside0.mk (andl_succ x.natAbs y.natAbs k).symm
          have HLN := Aside0.mk (show ((andl x.natAbs y.natAbs k).length + 1) * 4 ≤ 140737488355328 by rw [andl_len]; omega)
          have hka : (k : Int) < (la : Int) := by omega
          have hkb : (k : Int) < (lb : Int) := by omega
          generalize (D x.natAbs).getD k 0 = u at *
          generalize (D y.natAbs).getD k 0 = v at *
          go_wp2_with fail
          go_region_law (refine Kd.R_append_step (Kd.int .u32) (w0 := w) w.heap.size (by rfl) (.tmp 24) (.tmp 40) 61 110 (.int .u32 0) 4 rfl Try.underlying61 infoU rfl (by decide) (by omega) _ (andl x.natAbs y.natAbs k) (bits .and .u32 u v) [.int .u32 (bits .and .u32 u v)] (fun _ => True) (fun _ => False) rfl rfl rfl (fun _ hk => hk.elim) (fun _ _ => trivial) (Kd.R_drew HO.out) HB.out.drew HB.out.size HLN.out ?_; intro v1 w1 ho hb hg hat; rw [HS.out] at ho; have HO1 := Aside0.mk ho; have HB1 := Aside0.mk hb; clear ho hb hg hat HO HB)
          all_goals go_wp2
          all_goals go_roundw
          all_goals first | exact ⟨k + 1, by go_num, by omega, HO1, HB1⟩ | ((simp [intOf]) <;> omega)
        · obtain rfl : lb = k := by omega
          have HC := Lib.hid (HF.out lb _ wr HM3.out (by omega) HO.out HB.out)
          clear HO HB
          go_wp2_with (go_at_call 72; refine HC.out.mono ?_; rintro e w2 ⟨rfl, hz2, hg2⟩; have HE := Lib.hid (show Puts w p ((x.natAbs &&& y.natAbs : Nat) : Int) _ w2 from ⟨rfl, hz2, hg2⟩); clear hz2 hg2)
          go_ret
          exact HE.out

    · obtain rfl : la = lb := by omega
      obtain rfl : la = m := by omega
      clear hm1 hm3
      go_enter Try.func79, Try.ntmps79
      go_wp2_with ((with_reducible refine gate_dst (N := 9) rfl ?_); refine Kd.R_lit (Kd.int .u32) _ 110 ?hg (N := 9) ?hd (xs := ([] : List Int)) (inner := []) (ok := fun _ => True) (okp := fun _ => True) ?hr ?hp (fun _ hk => hk) trivial (Below.refl _ _) (Nat.le_refl _) (by simp) ?_; (case hd => rfl); (case hg => rfl); (case hr => first | (go_simp; done) | (go_simp; rfl)); (case hp => exact (Reps.none _ _)); intro v168 w3 ho4 hb hg_ hnew_; clear hg_ hnew_; rw [Ny0.out] at ho4; have n0_ := Aside0.mk (Kd.R_lower ho4 (Nat.le_refl _)); have n1_ := Aside0.mk hb; clear HB; have HO := n0_; have HB := n1_; obtain ⟨cx, cy⟩ := HCC.out w3 hb; clear n0_ n1_; clear hb ho4)
      go_region
      go_wp2_with fail
      go_loopw [7, 21] (fun v i wr => ∃ k : Nat, i = .int .i64 k ∧ k ≤ la ∧ Aside0 (Kd.R (Kd.int .u32) 110 wr w.heap.size (fun _ => True) v (andl x.natAbs y.natAbs k)) ∧ Aside0 (Below w.heap.size w wr)) (fun _ i _ => la - (intOf i).toNat)
      case atStart => exact ⟨0, rfl, by omega, ⟨by (with_reducible repeat (first | apply Kd.R_alloc | apply Kd.R_drewN | apply Kd.R_drew)); exact HO.out⟩, ⟨HB.out.drew⟩⟩
      case round =>
        clear HO HB cx cy
        obtain ⟨k, rfl, hk, HO, HB⟩ := hrel
        obtain ⟨cx, cy⟩ := HCC.out wr HB.out
        by_cases hkm : k < la
        · obtain ⟨ad, hA, ca⟩ := HCA.out k wr (by omega) HB.out
          obtain ⟨bd, hB, cb⟩ := HCB.out k wr (by omega) HB.out
          subst hA
          subst hB
          have HS := Aside0.mk (andl_succ x.natAbs y.natAbs k).symm
          have HLN := Aside0.mk (show ((andl x.natAbs y.natAbs k).length + 1) * 4 ≤ 140737488355328 by rw [andl_len]; omega)
          have hka : (k : Int) < (la : Int) := by omega
          have hkb : (k : Int) < (la : Int) := by omega
          generalize (D x.natAbs).getD k 0 = u at *
          generalize (D y.natAbs).getD k 0 = v at *
          go_wp2_with fail
          go_region_law (refine Kd.R_append_step (Kd.int .u32) (w0 := w) w.heap.size (by rfl) (.tmp 24) (.tmp 40) 61 110 (.int .u32 0) 4 rfl Try.underlying61 infoU rfl (by decide) (by omega) _ (andl x.natAbs y.natAbs k) (bits .and .u32 u v) [.int .u32 (bits .and .u32 u v)] (fun _ => True) (fun _ => False) rfl rfl rfl (fun _ hk => hk.elim) (fun _ _ => trivial) (Kd.R_drew HO.out) HB.out.drew HB.out.size HLN.out ?_; intro v1 w1 ho hb hg hat; rw [HS.out] at ho; have HO1 := Aside0.mk ho; have HB1 := Aside0.mk hb; clear ho hb hg hat HO HB)
          all_goals go_wp2
          all_goals go_roundw
          all_goals first | exact ⟨k + 1, by go_num, by omega, HO1, HB1⟩ | ((simp [intOf]) <;> omega)
        · obtain rfl : la = k := by omega
          have HC := Lib.hid (HF.out la _ wr HM3.out (by omega) HO.out HB.out)
          clear HO HB
          go_wp2_with (go_at_call 72; refine HC.out.mono ?_; rintro e w2 ⟨rfl, hz2, hg2⟩; have HE := Lib.hid (show Puts w p ((x.natAbs &&& y.natAbs : Nat) : Int) _ w2 from ⟨rfl, hz2, hg2⟩); clear hz2 hg2)
          go_ret
          exact HE.out
end Go.Proofs.Ytfinbmnjfnajiaa.Ml
end
section
set_option linter.unusedVariables false
set_option linter.unusedSimpArgs false
namespace Go.Proofs.Ytfinbmnjfnajiaa.Mn
open Go.RowKit Go.Proofs.YtfinbmnjfnajiaaW.PrintWords Go.Proofs.YtfinbmnjfnajiaaW.PrintLast Go.Proofs.YtfinbmnjfnajiaaW.PrintMore Go.Proofs.Ytfinbmnjfnajiaa.PW Go.Proofs.Ytfinbmnjfnajiaa.Pc Go.Proofs.Ytfinbmnjfnajiaa.Ma Go.Proofs.Ytfinbmnjfnajiaa.Mb Go.Proofs.Ytfinbmnjfnajiaa.Mc Go.Proofs.Ytfinbmnjfnajiaa.Md Go.Proofs.Ytfinbmnjfnajiaa.Me Go.Proofs.Ytfinbmnjfnajiaa.Mi Go.Proofs.Ytfinbmnjfnajiaa.Mj Go.Proofs.Ytfinbmnjfnajiaa.Mk Go.Proofs.Ytfinbmnjfnajiaa.Ml Dg
open Pm (sgn)
theorem infoI : (Try.prog.info? 2).map (fun i => (i.zero, i.size, i.bytes)) = some (some (.int .i64 0), 1, 8) := by kernel_rfl
theorem sizeW : (Try.prog.info? 26).map (·.size) = some 2 := by kernel_rfl
def GivesW (w : World) (s : Int) (l : List Int) (b : Bool) (e : Ending) (w' : World) : Prop :=
  ∃ u, e = .returned (.tuple #[.agg #[.int .i64 s, u], .bool b]) ∧ Kd.R (Kd.int .i64) 2 w' w.heap.size (fun _ => True) u l ∧ Below w.heap.size w w'
set_option maxHeartbeats 1600000 in
theorem fromBig_no {w : World} {q : Nat} {z : Int} (hz : Z w q z) (h1 : bl z.natAbs ≤ 268435456) (h2 : ¬ bl z.natAbs ≤ 2400) :
    Calls Try.prog 38 #[.pointer (some ⟨q, 0, none⟩)] w (GivesW w 0 [] false) := by
  have hB := Me.bitLen (hz.below (below_alloc w (.cells #[.int .i64 0, .slice none 0 0] 26))) (by omega)
  have HB := Lib.hid hB
  have hgt : (2400 : Int) < ((bl z.natAbs : Nat) : Int) := by omega
  clear hB hz h1 h2
  generalize bl z.natAbs = b at *
  go_enter Try.func38, Try.ntmps38
  go_wp2_with fail
  refine HB.out.mono ?_
  rintro e w1 ⟨rfl, n, rfl⟩
  go_wp2
  have hbox : ((w.alloc (.cells #[.int .i64 0, .slice none 0 0] 26)).drewN n).heap[w.heap.size]? = some (.cells #[.int .i64 0, .slice none 0 0] 26 (0, 0)) := ((Me.below_drawn n).block w.heap.size (by simp)).trans (heap_alloc_new w _)
  have hb : Below w.heap.size w ((w.alloc (.cells #[.int .i64 0, .slice none 0 0] 26)).drewN n) := below_then (below_alloc w _) (Me.below_drawn n)
  exact bodyPost_ret (results_ct rfl _ _ w.heap.size 26 #[.int .i64 0, .slice none 0 0] (0, 0) _ rfl (blk_set (blk_set hbox 0 _) 1 _) Try.underlying26 rfl sizeW) rfl ⟨_, rfl, Kd.R_nil _ _ _ _ _, (hb.setCell (Nat.le_refl _) _).setCell (Nat.le_refl _) _⟩
def ZF (w : World) (p : Nat) (z : Int) (v : Value) : Prop :=
  ∃ A c, w.heap[p]? = some (.cells #[.bool (decide (z < 0)), .slice A (D z.natAbs).length c] 63 (0, 0)) ∧ Mg w A c (D z.natAbs) ∧ ∀ ad, A = some ad → 0 < (D z.natAbs).length → some ad.block ≠ v.ownBlock
section
variable {w w1 : World} {p : Nat} {n : Int} {v v1 : Value}
theorem ZF.zz (h : ZF w p n v) : Z w p n := by
  obtain ⟨A, c, hb, hm, _⟩ := h
  exact ⟨A, c, hb, hm⟩
theorem ZF.of (h : Z w p n) : ZF w p n (.slice none 0 0) := by
  obtain ⟨A, c, hb, hm⟩ := h
  exact ⟨A, c, hb, hm, fun ad _ _ e => by simp [Value.ownBlock] at e⟩
theorem ZF.below (h : ZF w p n v) (hb : Below w.heap.size w w1) : ZF w1 p n v := by
  obtain ⟨A, c, h1, hm, hv⟩ := h
  exact ⟨A, c, (hb.block p (Array.getElem?_eq_some_iff.1 h1).1).trans h1, hm.below hb, hv⟩
theorem ZF.grown {q : Nat} (h : ZF w p n v) (hg : w.grownBy w1 (some q)) (hq : Blk w q) (hne : p ≠ q) : ZF w1 p n v := by
  obtain ⟨A, c, hb, hm, hv⟩ := h
  exact ⟨A, c, (hg.block p (Array.getElem?_eq_some_iff.1 hb).1 (by simpa using hne)).trans hb, hm.grown hg hq, hv⟩
theorem add_block (a : Addr) (k : Nat) : (a.add k).block = a.block := by
  unfold Addr.add
  split <;> rfl
theorem Mg.kept_at {A : Option Addr} {c : Nat} {xs : List Int} (h : Mg w A c xs) (hk : ∀ ad, A = some ad → 0 < xs.length → w1.heap[ad.block]? = w.heap[ad.block]?) : Mg w1 A c xs := by
  refine ⟨?_, h.2⟩
  obtain ⟨h1, h2, h3⟩ := h.1
  refine ⟨h1, h2, fun hn => ?_⟩
  obtain ⟨ad, hA, hc⟩ := h3 hn
  refine ⟨ad, hA, fun j p hp => ?_⟩
  obtain ⟨cs, hs, hR, hcell⟩ := hc j p hp
  refine ⟨cs, hs, hR, fun i u hu => ?_⟩
  rw [← hcell i u hu]
  exact World.cell?_of_block (w := w) (w' := w1) (a := ad.add (j * (Kd.int IntKind.u32).sz + i)) (by rw [add_block]; exact hk ad hA hn)
theorem Mg.lt {A : Option Addr} {c : Nat} {xs : List Int} (h : Mg w A c xs) (ad : Addr) (hA : A = some ad) (hn : 0 < xs.length) : ad.block < w.heap.size := by
  subst hA
  exact Kd.C_lt h.1 hn (by decide)
theorem ZF.after (h : ZF w p n v) (hpv : some p ≠ v.ownBlock) (hg : w.grownBy w1 v.ownBlock) (hat : v1.ownBlock = v.ownBlock ∨ ∃ b, v1.ownBlock = some b ∧ w.heap.size ≤ b) : ZF w1 p n v1 := by
  obtain ⟨A, c, hb, hm, hv⟩ := h
  refine ⟨A, c, (hg.block p (Array.getElem?_eq_some_iff.1 hb).1 hpv).trans hb, Mg.kept_at hm fun ad hA hn => hg.block _ (Mn.Mg.lt hm ad hA hn) (hv ad hA hn), fun ad hA hn => ?_⟩
  rcases hat with e | ⟨b, e, hle⟩
  · rw [e]; exact hv ad hA hn
  · rw [e]
    intro e2
    injection e2 with e2
    have := Mn.Mg.lt hm ad hA hn
    omega
theorem ZF.store {gw : Nat} {cs : Array Value} (h : ZF w p n v) (hw : w.heap[gw]? = some (.cells cs 26 (0, 0))) (hc : cs.size = 2) (h0 : ∀ x, cs[0]? ≠ some (.int .u32 x)) (h1 : ∀ x, cs[1]? ≠ some (.int .u32 x)) (i : Nat) (u : Value) : ZF (w.setCell ⟨gw, i, none⟩ u) p n v := by
  obtain ⟨A, c, hb, hm, hv⟩ := h
  have hne : p ≠ gw := by
    rintro rfl
    rw [hb] at hw
    injection hw with hw
    injection hw with _ hw
    exact absurd hw (by decide)
  refine ⟨A, c, (Below.heap_setCell _ _ _ _ hne).trans hb, Mg.kept_at hm fun ad hA hn => Below.heap_setCell _ _ _ _ ?_, hv⟩
  intro e
  have e : ad.block = gw := e
  obtain ⟨ad', hA', hc'⟩ := hm.1.2.2 hn
  rw [hA] at hA'
  injection hA' with hA'
  subst hA'
  obtain ⟨cs', hs, hR, hcell⟩ := hc' 0 _ (List.getElem?_eq_getElem hn)
  have hR' : cs' = [.int .u32 (D n.natAbs)[0]] := hR
  subst hR'
  have h4 := hcell 0 _ rfl
  rw [← e] at hw
  simp only [World.cell?, add_block, hw] at h4
  split at h4
  · cases h4
  · generalize (ad.add (0 * (Kd.int IntKind.u32).sz + 0)).off = o at h4
    match o, h4 with
    | 0, h4 => exact h0 _ h4
    | 1, h4 => exact h1 _ h4
    | n + 2, h4 =>
      rw [Array.getElem?_eq_none (by omega)] at h4
      cases h4
end
def GivesMgF (N : Nat) (w : World) (n : Nat) (e : Ending) (w' : World) : Prop :=
  ∃ A c, e = .returned (.slice A (D n).length c) ∧ Mg w' A c (D n) ∧ (∀ ad, A = some ad → 0 < (D n).length → N ≤ ad.block) ∧ Below w.heap.size w w'
def PutsF (N : Nat) (w : World) (p : Nat) (z : Int) (e : Ending) (w' : World) : Prop :=
  Puts w p z e w' ∧ ∀ A n c, w'.cell? ⟨p, 1, none⟩ = some (.slice A n c) → ∀ ad, A = some ad → 0 < n → N ≤ ad.block
theorem fresh_of {w w' : World} {N : Nat} {e : Ending} {v : Value} {n : Nat} {b : Nat} {t : Nat} (he : e = .returned v) (h : Kd.V (Kd.int .u32) t w' b (fun k => N ≤ k) v (D n)) (hb : Below w.heap.size w w') : GivesMgF N w n e w' := by
  obtain ⟨A, c, rfl, hm⟩ := Mg.of_V h
  exact ⟨A, c, he, hm, fun ad hA hn => Kd.F_in (Kd.V_F h) hA hn (by decide), hb⟩
theorem V_of_fresh {w : World} {N : Nat} {A : Option Addr} {c : Nat} {xs : List Int} (h : Mg w A c xs) (hA : ∀ ad, A = some ad → 0 < xs.length → N ≤ ad.block) : Kd.V (Kd.int .u32) 110 w w.heap.size (fun k => N ≤ k) (.slice A xs.length c) xs := by
  refine Kd.V_mk h.2 ?_
  intro W' hW
  exact (Mn.Mg.kept_at (w1 := W') h fun ad hA' hn => hW _ (hA ad hA' hn) (Mn.Mg.lt h ad hA' hn)).1
theorem cRightF {w : World} {A : Option Addr} {c a n : Nat} (ha : Mg w A c (D a)) (h1 : bl a ≤ 536870912) (h2 : n ≤ 536870912) :
    Calls Try.prog 110 #[.slice A (D a).length c, .int .u64 n] w (GivesMgF w.heap.size w (a / 2 ^ n)) := by
  obtain ⟨k, hk⟩ := (Po.right a n h1 h2).rounds
  refine (impl_magRight.calls k A c _ _ _ w ha.1 ha.2 hk).mono ?_
  rintro e w' ⟨v, he, hv, hbl⟩
  exact fresh_of he hv hbl
theorem cTrimF {w : World} {N : Nat} {A : Option Addr} {c n : Nat} (h : Mg w A c (D n)) (hA : ∀ ad, A = some ad → 0 < (D n).length → N ≤ ad.block) (hN : N ≤ w.heap.size) (hl : bl n ≤ 1099511627776) :
    Calls Try.prog 95 #[.slice A (D n).length c] w (GivesMgF N w n) := by
  have hl2 := D_len n
  obtain ⟨k, hk⟩ := (Pm.trim _ (D n) rfl (D_dig n) (by omega)).rounds
  rw [D_val, Int.toNat_natCast] at hk
  refine (impl_magTrim.calls k (fun k => N ≤ k) A c (D n) _ w (V_of_fresh h hA) hk).mono ?_
  rintro e w' ⟨v, he, hv, hb⟩
  exact fresh_of he (Kd.V_mono hv (fun k hk => hk.elim id (fun h => Nat.le_trans hN h))) hb
set_option maxHeartbeats 400000 in
theorem putF {w W : World} {p n N : Nat} {A : Option Addr} {c : Nat} (hp : Blk w p) (hb : Below w.heap.size w W) (hN : N ≤ w.heap.size) (hm : Mg W A c (D n)) (hA : ∀ ad, A = some ad → 0 < (D n).length → N ≤ ad.block) (hl : bl n ≤ 1099511627776) :
    Calls Try.prog 72 #[.pointer (some ⟨p, 0, none⟩), .bool false, .slice A (D n).length c] W (PutsF N w p (n : Int)) := by
  have hT := cTrimF hm hA (Nat.le_trans hN hb.size) hl
  obtain ⟨b, B, m, d, hbx⟩ := hp
  have hlt : p < w.heap.size := (Array.getElem?_eq_some_iff.1 hbx).1
  have HB := Lib.hid hbx
  have HT := Lib.hid hT
  have HBW := Lib.hid hb
  clear hT hbx hm hA hl hb
  have hE : ∀ w1 : World, Below w.heap.size w w1 → (w1.cell? ⟨p, 0, none⟩ = some (.bool b) ∧ w1.cell? ⟨p, 1, none⟩ = some (.slice B m d) ∧ w1.frozen? ⟨p, 0, none⟩ = false ∧ w1.frozen? ⟨p, 1, none⟩ = false) := fun w1 h => by
    have h1 := (h.block p hlt).trans HB.out
    exact ⟨blk_cell h1 0, blk_cell h1 1, blk_frozen h1 0, blk_frozen h1 1⟩
  have HE := Lib.hid hE
  clear hE
  have hgoal : ∀ (w1 : World) (A' : Option Addr) (c' : Nat), Below w.heap.size w w1 → Mg w1 A' c' (D n) → (∀ ad, A' = some ad → 0 < (D n).length → N ≤ ad.block) → PutsF N w p (n : Int) (.returned (.pointer (some ⟨p, 0, none⟩))) ((w1.setCell ⟨p, 1, none⟩ (.slice A' (D n).length c')).setCell ⟨p, 0, none⟩ (.bool false)) := by
    intro w1 A' c' hbl hmg hA'
    have h1 := puts_of (z := (n : Int)) (A := A') (c := c') (neg := false) HB.out hbl (by simpa using hmg) (by simp)
    refine ⟨h1, ?_⟩
    have h2 := blk_set (blk_set ((hbl.block p hlt).trans HB.out) 1 (.slice A' (D n).length c')) 0 (.bool false)
    have h3 := blk_cell h2 1
    intro A2 n2 c2 he ad hA2 hn
    rw [h3] at he
    injection he with he
    simp at he
    obtain ⟨rfl, rfl, rfl⟩ := he
    exact hA' ad hA2 hn
  have HG := Lib.hid hgoal
  clear hgoal
  go_enter Try.func72, Try.ntmps72
  go_wp2_with fail
  refine HT.out.mono ?_
  rintro e w1 ⟨A', c', rfl, hmg, hA', hbl⟩
  obtain ⟨k0, k1, f0, f1⟩ := HE.out w1 (below_then HBW.out hbl)
  have h2 := Lib.hid (HG.out w1 A' c' (below_then HBW.out hbl) hmg hA')
  clear hmg hbl hA' HB HBW
  go_wp2
  go_ret
  exact h2.out
set_option maxHeartbeats 800000 in
theorem rshF {w : World} {p m n : Nat} (hz : Z w p (m : Int)) (h1 : bl m ≤ 268435456) (h2 : n ≤ 268435456) :
    Calls Try.prog 81 #[.pointer (some ⟨p, 0, none⟩), .pointer (some ⟨p, 0, none⟩), .int .u64 n] w (PutsF w.heap.size w p ((m / 2 ^ n : Nat) : Int)) := by
  have hp := hz.blk
  obtain ⟨A, c, k0, k1, hm, hq⟩ := Z.open hz
  rw [Int.natAbs_natCast] at k1 hm
  rw [show decide ((m : Int) < 0) = false by simp] at k0
  have b2 := bl_mono (Nat.div_le_self m (2 ^ n))
  have hR := cRightF hm (n := n) (by omega) (by omega)
  have hP := fun (w1 : World) (A' : Option Addr) (c' : Nat) h1 h2 h3 => putF (W := w1) (A := A') (c := c') (n := m / 2 ^ n) hp h1 (Nat.le_refl _) h2 h3 (by omega)
  have HR := Lib.hid hR
  have HP := Lib.hid hP
  clear hR hP b2 h1 h2 hm hp hz
  go_enter Try.func81, Try.ntmps81
  go_wp2_with fail
  refine HR.out.mono ?_
  rintro e w1 ⟨A1, c1, rfl, hm1, hA1, hb1⟩
  have HP1 := Lib.hid (HP.out w1 A1 c1 hb1 hm1 hA1)
  clear hm1 hb1 hA1
  go_wp2_with fail
  refine HP1.out.mono ?_
  rintro e w4 hz2
  have HE := Lib.hid hz2
  obtain ⟨⟨rfl, hz3, hg3⟩, h4⟩ := hz2
  clear hz3 hg3 h4
  go_wp2
  go_ret
  exact HE.out
def St (w wr : World) (gw gr gm : Nat) (s : Int) (m k : Nat) (v : Value) (pre : List Int) : Prop :=
  wr.heap[gw]? = some (.cells #[.int .i64 s, v] 26 (0, 0)) ∧ Kd.R (Kd.int .i64) 2 wr w.heap.size (fun _ => True) v pre ∧ ZF wr gr (k : Int) v ∧ ZF wr gm 16777215 v ∧ Below w.heap.size w wr ∧ pre ++ L k = L m
section
variable {w wr w1 : World} {gw gr gm m k : Nat} {s : Int} {v v1 : Value} {pre : List Int}
theorem St.cell (h : St w wr gw gr gm s m k v pre) : wr.cell? ⟨gw, 1, none⟩ = some v := blk_cell h.1 1
theorem St.lt (h : St w wr gw gr gm s m k v pre) : gw < wr.heap.size := by
  have := h.1
  rw [Array.getElem?_eq_some_iff] at this
  exact this.1
theorem St.below (h : St w wr gw gr gm s m k v pre) (hb : Below wr.heap.size wr w1) : St w w1 gw gr gm s m k v pre :=
  ⟨(hb.block gw h.lt).trans h.1, Kd.R_below h.2.1 hb, h.2.2.1.below hb, h.2.2.2.1.below hb, below_then h.2.2.2.2.1 hb, h.2.2.2.2.2⟩
theorem ne_types {g p : Nat} {cs : Array Value} {t : TypeId} (h : wr.heap[g]? = some (.cells cs t (0, 0))) (hp : Blk wr p) (ht : t ≠ 63) : g ≠ p := by
  rintro rfl
  obtain ⟨b, A, n, c, hc⟩ := hp
  rw [h] at hc
  injection hc with hc
  injection hc with _ hc
  exact ht hc
theorem St.other {p : Nat} (h : St w wr gw gr gm s m k v pre) (hp : Blk wr p) (h1 : gr ≠ p) (h2 : gm ≠ p) (hN : w.heap.size ≤ p) (hg : wr.grownBy w1 (some p)) : St w w1 gw gr gm s m k v pre := by
  refine ⟨(hg.block gw h.lt (by have := ne_types h.1 hp (by decide); simpa using this)).trans h.1, ?_, h.2.2.1.grown hg hp h1, h.2.2.2.1.grown hg hp h2, below_grown h.2.2.2.2.1 hg hN, h.2.2.2.2.2⟩
  obtain ⟨b, A, n, c, hc⟩ := hp
  exact Kd.R_mono (Kd.R_grown (Kd.R_types h.2.1 hc (by decide)) hg (fun k hk => by have := hk.2; simpa using this)) (fun _ hk => hk.1)
theorem St.rest {k' : Nat} {e : Ending} (h : St w wr gw gr gm s m k v pre) (hp : PutsF wr.heap.size wr gr (k' : Int) e w1) (hne : gm ≠ gr) (hgr : w.heap.size ≤ gr) (he : pre ++ L k' = L m) : St w w1 gw gr gm s m k' v pre := by
  obtain ⟨⟨_, hz, hg⟩, hf⟩ := hp
  have hb := h.2.2.1.zz.blk
  refine ⟨(hg.block gw h.lt (by have := ne_types h.1 hb (by decide); simpa using this)).trans h.1, ?_, ?_, h.2.2.2.1.grown hg hb hne, below_grown h.2.2.2.2.1 hg hgr, he⟩
  · obtain ⟨b, A, n, c, hc⟩ := hb
    exact Kd.R_mono (Kd.R_grown (Kd.R_types h.2.1 hc (by decide)) hg (fun k hk => by have := hk.2; simpa using this)) (fun _ hk => hk.1)
  · obtain ⟨A, c, hzb, hm⟩ := hz
    refine ⟨A, c, hzb, hm, fun ad hA hn ho => ?_⟩
    have h1 := hf _ _ _ (blk_cell hzb 1) ad hA hn
    have h2 := Kd.R_lt h.2.1 _ ho.symm
    omega
theorem St.put {wr1 : World} {p : Int} {k' : Nat} (h : St w wr gw gr gm s m k v pre) (ho : Kd.R (Kd.int .i64) 2 wr1 w.heap.size (fun _ => True) v1 (pre ++ [p])) (hg : wr.grownBy wr1 v.ownBlock) (hat : v1.ownBlock = v.ownBlock ∨ ∃ b, v1.ownBlock = some b ∧ wr.heap.size ≤ b) (hb : Below w.heap.size w wr1) (hgw : w.heap.size ≤ gw) :
    wr1.frozen? ⟨gw, 1, none⟩ = false ∧ (wr1.setCell ⟨gw, 1, none⟩ v1).heap[gw]? = some (.cells #[.int .i64 s, v1] 26 (0, 0)) ∧ Kd.R (Kd.int .i64) 2 (wr1.setCell ⟨gw, 1, none⟩ v1) w.heap.size (fun _ => True) v1 (pre ++ [p]) ∧ ZF (wr1.setCell ⟨gw, 1, none⟩ v1) gr (k : Int) v1 ∧ ZF (wr1.setCell ⟨gw, 1, none⟩ v1) gm 16777215 v1 ∧ Below w.heap.size w (wr1.setCell ⟨gw, 1, none⟩ v1) := by
  have hgw1 : wr1.heap[gw]? = some (.cells #[.int .i64 s, v] 26 (0, 0)) := (hg.block gw h.lt (Kd.R_ne h.2.1 h.1 (by decide))).trans h.1
  obtain ⟨A, c, hv⟩ := Kd.R_slice h.2.1
  refine ⟨blk_frozen hgw1 1, blk_set hgw1 1 v1, Kd.R_set ho hgw1 (by decide) 1 v1, ?_, ?_, hb.setCell hgw _⟩
  · obtain ⟨b, B, n, d, hc⟩ := h.2.2.1.zz.blk
    exact (h.2.2.1.after (Kd.R_ne h.2.1 hc (by decide)) hg hat).store hgw1 rfl (by simp) (by subst hv; simp) 1 v1
  · obtain ⟨b, B, n, d, hc⟩ := h.2.2.2.1.zz.blk
    exact (h.2.2.2.1.after (Kd.R_ne h.2.1 hc (by decide)) hg hat).store hgw1 rfl (by simp) (by subst hv; simp) 1 v1
def Sr (w wr : World) (gw gr gm : Nat) (s : Int) (m k : Nat) (v : Value) (pre : List Int) : Prop :=
  St w wr gw gr gm s m k v pre ∧ wr.heap[w.heap.size]? = some (.cells #[.int .i64 0, .slice none 0 0] 26 (0, 0))
theorem Sr.lt (h : Sr w wr gw gr gm s m k v pre) : w.heap.size < wr.heap.size := (Array.getElem?_eq_some_iff.1 h.2).1
theorem Sr.below (h : Sr w wr gw gr gm s m k v pre) (hb : Below wr.heap.size wr w1) : Sr w w1 gw gr gm s m k v pre :=
  ⟨h.1.below hb, (hb.block _ h.lt).trans h.2⟩
theorem Sr.other {p : Nat} (h : Sr w wr gw gr gm s m k v pre) (hp : Blk wr p) (h1 : gr ≠ p) (h2 : gm ≠ p) (hN : w.heap.size < p) (hg : wr.grownBy w1 (some p)) : Sr w w1 gw gr gm s m k v pre :=
  ⟨h.1.other hp h1 h2 (by omega) hg, (hg.block _ h.lt (by simp; omega)).trans h.2⟩
theorem Sr.rest {k' : Nat} {e : Ending} (h : Sr w wr gw gr gm s m k v pre) (hp : PutsF wr.heap.size wr gr (k' : Int) e w1) (hne : gm ≠ gr) (hgr : w.heap.size < gr) (he : pre ++ L k' = L m) : Sr w w1 gw gr gm s m k' v pre :=
  ⟨h.1.rest hp hne (by omega) he, (hp.1.2.2.block _ h.lt (by simp; omega)).trans h.2⟩
def Sm (w wr : World) (gw gr gm : Nat) (s : Int) (k : Nat) (v : Value) (pre : List Int) : Prop :=
  wr.heap[gw]? = some (.cells #[.int .i64 s, v] 26 (0, 0)) ∧ Kd.R (Kd.int .i64) 2 wr w.heap.size (fun _ => True) v pre ∧ ZF wr gr (k : Int) v ∧ ZF wr gm 16777215 v ∧ Below w.heap.size w wr ∧ wr.heap[w.heap.size]? = some (.cells #[.int .i64 0, .slice none 0 0] 26 (0, 0))
theorem Sr.put {wr1 : World} {p : Int} (h : Sr w wr gw gr gm s m k v pre) (ho : Kd.R (Kd.int .i64) 2 wr1 w.heap.size (fun _ => True) v1 (pre ++ [p])) (hg : wr.grownBy wr1 v.ownBlock) (hat : v1.ownBlock = v.ownBlock ∨ ∃ b, v1.ownBlock = some b ∧ wr.heap.size ≤ b) (hb : Below w.heap.size w wr1) (hgw : w.heap.size < gw) :
    wr1.frozen? ⟨gw, 1, none⟩ = false ∧ (∃ u, wr1.cell? ⟨gw, 1, none⟩ = some u) ∧ Sm w (wr1.setCell ⟨gw, 1, none⟩ v1) gw gr gm s k v1 (pre ++ [p]) := by
  obtain ⟨h1, h2, h3, h4, h5, h6⟩ := h.1.put (k' := 0) ho hg hat hb (by omega)
  refine ⟨h1, ?_, h2, h3, h4, h5, h6, ?_⟩
  · have hgw1 : wr1.heap[gw]? = some (.cells #[.int .i64 s, v] 26 (0, 0)) := (hg.block gw h.1.lt (Kd.R_ne h.1.2.1 h.1.1 (by decide))).trans h.1.1
    exact ⟨_, blk_cell hgw1 1⟩
  · refine (Below.heap_setCell _ _ _ _ (by show w.heap.size ≠ gw; omega)).trans ?_
    exact (hg.block _ h.lt (Kd.R_ne h.1.2.1 h.2 (by decide))).trans h.2
theorem Sm.rest {k' : Nat} {e : Ending} (h : Sm w wr gw gr gm s k v pre) (hp : PutsF wr.heap.size wr gr (k' : Int) e w1) (hne : gm ≠ gr) (hgr : w.heap.size < gr) (he : pre ++ L k' = L m) : Sr w w1 gw gr gm s m k' v pre := by
  obtain ⟨h2, h3, h4, h5, h6, h7⟩ := h
  have hlt : w.heap.size < wr.heap.size := (Array.getElem?_eq_some_iff.1 h7).1
  have hltg : gw < wr.heap.size := (Array.getElem?_eq_some_iff.1 h2).1
  obtain ⟨⟨_, hz, hg⟩, hf⟩ := hp
  have hb := h4.zz.blk
  refine ⟨⟨(hg.block gw hltg (by have := ne_types h2 hb (by decide); simpa using this)).trans h2, ?_, ?_, h5.grown hg hb hne, below_grown h6 hg (by omega), he⟩, (hg.block _ hlt (by simp; omega)).trans h7⟩
  · obtain ⟨b, A, n, c, hc⟩ := hb
    exact Kd.R_mono (Kd.R_grown (Kd.R_types h3 hc (by decide)) hg (fun k hk => by have := hk.2; simpa using this)) (fun _ hk => hk.1)
  · obtain ⟨A, c, hzb, hm⟩ := hz
    refine ⟨A, c, hzb, hm, fun ad hA hn ho => ?_⟩
    have h1 := hf _ _ _ (blk_cell hzb 1) ad hA hn
    have h2 := Kd.R_lt h3 _ ho.symm
    omega
end
end Go.Proofs.Ytfinbmnjfnajiaa.Mn
end
section
set_option linter.unusedVariables false
set_option linter.unusedSimpArgs false
namespace Go.Proofs.Ytfinbmnjfnajiaa.Mo
open Go.RowKit Go.Proofs.YtfinbmnjfnajiaaW.PrintWords Go.Proofs.YtfinbmnjfnajiaaW.PrintLast Go.Proofs.YtfinbmnjfnajiaaW.PrintMore Go.Proofs.Ytfinbmnjfnajiaa.PW Go.Proofs.Ytfinbmnjfnajiaa.Pc Go.Proofs.Ytfinbmnjfnajiaa.Ma Go.Proofs.Ytfinbmnjfnajiaa.Mb Go.Proofs.Ytfinbmnjfnajiaa.Mc Go.Proofs.Ytfinbmnjfnajiaa.Md Go.Proofs.Ytfinbmnjfnajiaa.Me Go.Proofs.Ytfinbmnjfnajiaa.Mi Go.Proofs.Ytfinbmnjfnajiaa.Mj Go.Proofs.Ytfinbmnjfnajiaa.Mk Go.Proofs.Ytfinbmnjfnajiaa.Ml Go.Proofs.Ytfinbmnjfnajiaa.Mn Dg
open Pm (sgn)
theorem L_next {k : Nat} (h : k ≠ 0) : L k = ((k % 16777216 : Nat) : Int) :: L (k / 16777216) := dg_pos _ h
theorem and_mask (k : Nat) : (((k : Int).natAbs &&& (16777215 : Int).natAbs : Nat) : Int) = ((k % 16777216 : Nat) : Int) := by
  have := Nat.and_two_pow_sub_one_eq_mod k 24
  rw [Int.natAbs_natCast, ← this]
  rfl
set_option maxHeartbeats 1600000 in
theorem fromBig_yes {w : World} {q : Nat} {z : Int} (hz : Z w q z) (h1 : bl z.natAbs ≤ 2400) :
    Calls Try.prog 38 #[.pointer (some ⟨q, 0, none⟩)] w (GivesW w (sgn z) (L z.natAbs) true) := by
  have hB := Me.bitLen (hz.below (below_alloc w (.cells #[.int .i64 0, .slice none 0 0] 26))) (by omega)
  have HB := Lib.hid hB
  have hgt : ((bl z.natAbs : Nat) : Int) ≤ 2400 := by omega
  clear hB
  have HZ := Lib.hid hz
  have HL := Lib.hid h1
  clear hz h1
  generalize bl z.natAbs = b at hgt HB
  go_enter Try.func38, Try.ntmps38
  go_wp2_with fail
  refine HB.out.mono ?_
  rintro e w1 ⟨rfl, n, rfl⟩
  have hb0 : Below w.heap.size w ((w.alloc (.cells #[.int .i64 0, .slice none 0 0] 26)).drewN n) := below_then (below_alloc w _) (Me.below_drawn n)
  have hS := Me.sign (HZ.out.below hb0)
  have hbx : ((w.alloc (.cells #[.int .i64 0, .slice none 0 0] 26)).drewN n).heap[w.heap.size]? = some (.cells #[.int .i64 0, .slice none 0 0] 26 (0, 0)) := ((Me.below_drawn n).block w.heap.size (by simp)).trans (heap_alloc_new w _)
  have hsz : ((w.alloc (.cells #[.int .i64 0, .slice none 0 0] 26)).drewN n).heap.size = w.heap.size + 1 := by show (w.alloc _).heap.size = _; simp
  have HS := Lib.hid hS
  have HB0 := Lib.hid hb0
  have HBX := Lib.hid hbx
  have HSZ := Lib.hid hsz
  clear hS hb0 hbx hsz
  generalize hW0 : (w.alloc (.cells #[.int .i64 0, .slice none 0 0] 26)).drewN n = W0 at *
  clear hW0
  go_wp2_with fail
  refine HS.out.mono ?_
  rintro e w2 ⟨rfl, rfl⟩
  -- the integers that are made
  have hz2 := HZ.out.below (below_then (below_then HB0.out (Ma.below_alloc W0 (.cells #[.int .i64 (sgn z), .slice none 0 0] 26))) (Ma.below_alloc _ (.cells #[.bool false, .slice none 0 0] 63)))
  have hp2 : Blk ((W0.alloc (.cells #[.int .i64 (sgn z), .slice none 0 0] 26)).alloc (.cells #[.bool false, .slice none 0 0] 63)) (W0.heap.size + 1) := by
    have := (Z.new (W0.alloc (.cells #[.int .i64 (sgn z), .slice none 0 0] 26))).blk
    simpa using this
  have hA := Me.abs hp2 hz2 (by have := HL.out; omega)
  have HA := Lib.hid hA
  have HP2 := Lib.hid hp2
  clear hA hz2 hp2
  go_wp2_with fail
  refine HA.out.mono ?_
  rintro e w3 ⟨rfl, hz3, hg3⟩
  have HZ3 := Lib.hid hz3
  have HG3 := Lib.hid hg3
  have hn3 := newInt (w := w3) (n := 16777215) (by decide) (by decide)
  have HN3 := Lib.hid hn3
  clear hz3 hg3 hn3
  go_wp2_with fail
  refine HN3.out.mono ?_
  rintro e w4 ⟨gm, rfl, hz4, hgm, hb4⟩
  have hst : Sr w w4 W0.heap.size (W0.heap.size + 1) gm (sgn z) z.natAbs z.natAbs (.slice none 0 0) [] := by
    have hA1 : Below W0.heap.size W0 ((W0.alloc (.cells #[.int .i64 (sgn z), .slice none 0 0] 26)).alloc (.cells #[.bool false, .slice none 0 0] 63)) := below_then (Ma.below_alloc W0 _) (Ma.below_alloc _ _)
    have hA2 : Below W0.heap.size W0 w3 := below_grown hA1 HG3.out (by omega)
    have hs3 := HG3.out.size
    simp at hs3
    have hcell : ((W0.alloc (.cells #[.int .i64 (sgn z), .slice none 0 0] 26)).alloc (.cells #[.bool false, .slice none 0 0] 63)).heap[W0.heap.size]? = some (.cells #[.int .i64 (sgn z), .slice none 0 0] 26 (0, 0)) := ((Ma.below_alloc _ _).block _ (by simp)).trans (heap_alloc_new W0 _)
    have hcell3 := (HG3.out.block W0.heap.size (by simp; omega) (by simp)).trans hcell
    have hcell4 := (hb4.block W0.heap.size (by omega)).trans hcell3
    have h0 : w.heap.size < W0.heap.size := by have := HSZ.out; omega
    refine ⟨⟨hcell4, Kd.R_nil _ _ _ _ _, ZF.of (HZ3.out.below hb4), ZF.of hz4, below_then (below_then HB0.out hA2) hb4, rfl⟩, ?_⟩
    exact (hb4.block _ (by omega)).trans ((hA2.block _ h0).trans HBX.out)
  have hne : gm ≠ W0.heap.size + 1 := by have := HZ3.out.lt; omega
  have hlim : (L z.natAbs).length ≤ 100 := (L_len_iff _ _).2 (by have := HL.out; omega)
  have HST := Lib.hid hst
  have HNE := Lib.hid hne
  have HLIM := Lib.hid hlim
  have hsz2 : w.heap.size < W0.heap.size := by have := HSZ.out; omega
  have HSZ2 := Lib.hid hsz2
  clear hz4 hgm hb4 hst hne hlim hsz2 HZ3 HG3 HN3 HA HP2 HS HB0 HBX HSZ HZ HB
  go_wp2_with fail
  generalize W0.heap.size = g at *
  have hsign : ∀ (wr : World) (k : Nat) (v : Value) (pre : List Int), Sr w wr g (g + 1) gm (sgn z) z.natAbs k v pre → Calls Try.prog 77 #[.pointer (some ⟨g + 1, 0, none⟩)] wr fun e w' => e = .returned (.int .i64 (sgn (k : Int))) ∧ wr = w' := fun wr k v pre h => Me.sign h.1.2.2.1.zz
  have HSG := Lib.hid hsign
  clear hsign
  go_loopg [] (L z.natAbs).length (fun n wr => ∃ (k : Nat) (v : Value) (pre : List Int), n = (L k).length ∧ Hid (Sr w wr g (g + 1) gm (sgn z) z.natAbs k v pre))
  case atStart => exact ⟨_, _, [], rfl, HST⟩
  case round =>
    obtain ⟨k, v, pre, hlen, HR⟩ := hrel
    clear HST
    obtain ⟨A, c, rfl⟩ := Kd.R_slice HR.out.1.2.1
    by_cases hk : k = 0
    · subst hk
      have hs0 : sgn ((0 : Nat) : Int) = 0 := rfl
      have HS0 := Lib.hid hs0
      clear hs0 hlen
      go_wp2_with fail
      refine (HSG.out wr _ _ _ HR.out).mono ?_
      rintro e w2 ⟨rfl, rfl⟩
      rw [HS0.out]
      have k0 := blk_cell HR.out.1.1 0
      have k1 := blk_cell HR.out.1.1 1
      simp only [List.getElem?_toArray, List.getElem?_cons_zero, List.getElem?_cons_succ] at k0 k1
      have c0 := blk_cell HR.out.2 0
      have c1 := blk_cell HR.out.2 1
      have f0 := blk_frozen HR.out.2 0
      have f1 := blk_frozen HR.out.2 1
      simp only [List.getElem?_toArray, List.getElem?_cons_zero, List.getElem?_cons_succ] at c0 c1
      go_wp2
      have hL0 : pre = L z.natAbs := by have := HR.out.1.2.2.2.2.2; rwa [show L 0 = [] from dg_zero _, List.append_nil] at this
      have hR := Kd.R_set (Kd.R_set HR.out.1.2.1 HR.out.2 (by decide) 0 (.int .i64 (sgn z))) (blk_set HR.out.2 0 (.int .i64 (sgn z))) (by decide) 1 (.slice A pre.length c)
      have hB := (HR.out.1.2.2.2.2.1.setCell (p := ⟨w.heap.size, 0, none⟩) (Nat.le_refl _) (.int .i64 (sgn z))).setCell (p := ⟨w.heap.size, 1, none⟩) (Nat.le_refl _) (.slice A pre.length c)
      have hBL := blk_set (blk_set HR.out.2 0 (.int .i64 (sgn z))) 1 (.slice A pre.length c)
      clear c0 c1 f0 f1 k0 k1
      rw [← hL0]
      exact bodyPost_ret (results_ct rfl _ _ w.heap.size 26 #[.int .i64 (sgn z), .slice A pre.length c] (0, 0) _ rfl hBL Try.underlying26 rfl sizeW) rfl ⟨_, rfl, hR, hB⟩
    · have hs1 : sgn ((k : Nat) : Int) = 1 := by unfold sgn; rw [if_neg (by omega), if_neg (by omega)]
      have HS1 := Lib.hid hs1
      have HK := Lib.hid hk
      clear hs1 hk
      go_wp2_with fail
      refine (HSG.out wr _ _ _ HR.out).mono ?_
      rintro e w2 ⟨rfl, rfl⟩
      rw [HS1.out]
      have kc := blk_cell HR.out.1.1 1
      simp only [List.getElem?_toArray, List.getElem?_cons_zero, List.getElem?_cons_succ] at kc
      have hlt := HR.out.1.lt
      have hh := HR.out.1.2.2.2.2.2
      have hpl : (pre.length + 1) * 8 ≤ 140737488355328 := by have := congrArg List.length hh; rw [List.length_append] at this; have := HLIM.out; omega
      have hbk : bl k ≤ 2400 := by
        have : (L k).length ≤ 100 := by have := congrArg List.length hh; rw [List.length_append] at this; have := HLIM.out; omega
        have := (L_len_iff k 100).1 this
        omega
      rw [L_next HK.out] at hh hlen
      have he : (pre ++ [((k % 16777216 : Nat) : Int)]) ++ L (k / 16777216) = L z.natAbs := by rw [List.append_assoc]; exact hh
      have hms : (L (k / 16777216)).length < gk := by rw [hlen]; simp
      have HPL := Lib.hid hpl
      have HBK := Lib.hid hbk
      have HE := Lib.hid he
      have HMS := Lib.hid hms
      clear hh hpl hbk he hms hlen
      have hand : ∀ W : World, Below wr.heap.size wr W → Blk W wr.heap.size → Calls Try.prog 79 #[.pointer (some ⟨wr.heap.size, 0, none⟩), .pointer (some ⟨g + 1, 0, none⟩), .pointer (some ⟨gm, 0, none⟩)] W fun e w' => e = .returned (.pointer (some ⟨wr.heap.size, 0, none⟩)) ∧ Hid (Sr w w' g (g + 1) gm (sgn z) z.natAbs k (.slice A pre.length c) pre) ∧ Hid (Z w' wr.heap.size ((k % 16777216 : Nat) : Int)) ∧ w'.cell? ⟨g, 1, none⟩ = some (.slice A pre.length c) := by
        intro W hW hB
        have hr := HR.out.below hW
        have h0 := HR.out.1.2.2.1.zz.lt
        have h2 := HR.out.1.2.2.2.1.zz.lt
        have hbk : bl ((k : Nat) : Int).natAbs ≤ 2400 := by
          have := HBK.out
          rw [Int.natAbs_natCast]; omega
        refine (andd hB hr.1.2.2.1.zz hr.1.2.2.2.1.zz (by omega) (by decide)).mono ?_
        rintro e w' ⟨rfl, hz, hg⟩
        rw [and_mask] at hz
        have hr2 := hr.other hB (by omega) (by omega) (by have := HR.out.lt; omega) hg
        exact ⟨rfl, Lib.hid hr2, Lib.hid hz, hr2.1.cell⟩
      have HAND := Lib.hid hand
      have hint : ∀ W : World, Z W wr.heap.size ((k % 16777216 : Nat) : Int) → Calls Try.prog 80 #[.pointer (some ⟨wr.heap.size, 0, none⟩)] W fun e w' => e = .returned (.int .i64 ((k % 16777216 : Nat) : Int)) ∧ W = w' := fun W hW => int64 hW (by omega) (by omega)
      have HINT := Lib.hid hint
      clear hand hint
      go_wp2_with fail
      go_region_law (first | (go_simp; go_at_call 79; refine (HAND.out _ (by first | exact ((Below.refl _ _).alloc (Nat.le_refl _) _).drew | exact (Below.refl _ _).drew.alloc (Nat.le_refl _) _) (by first | exact (Z.new wr).blk.below (Below.refl _ _).drew | exact (Z.new wr.drew).blk)).mono ?_; rintro e w2 ⟨rfl, HR2, HZ2, kc2⟩; have hl2 := HR2.out.1.lt; clear HR kc) | (go_simp; go_at_call 80; refine (HINT.out _ HZ2.out).mono ?_; rintro e w3 ⟨rfl, rfl⟩) | (refine Kd.R_append_step (Kd.int .i64) (w0 := w) w.heap.size (by rfl) (.tmp 22) (.tmp 28) 22 2 (.int .i64 0) 8 rfl Try.underlying22 infoI rfl (by decide) (by omega) _ pre ((k % 16777216 : Nat) : Int) [.int .i64 ((k % 16777216 : Nat) : Int)] (fun _ => True) (fun _ => False) rfl rfl rfl (fun _ hk => hk.elim) (fun _ _ => trivial) HR2.out.1.2.1 HR2.out.1.2.2.2.2.1 HR2.out.1.2.2.2.2.1.size HPL.out ?_; intro v1 w1 ho hb hg hat; obtain ⟨A1, c1, rfl⟩ := Kd.R_slice ho; obtain ⟨ff, ⟨u, cc⟩, HP⟩ := HR2.out.put ho hg hat hb HSZ2.out; rw [show (pre ++ [((k % 16777216 : Nat) : Int)]).length = pre.length + 1 by simp] at HP; have HPH := Lib.hid HP; clear HP ho hb hg hat HR2))
      all_goals clear HAND HINT HZ2
      all_goals
        clear kc2 hl2 hlt
        go_wp2_with fail
        refine (rshF HPH.out.2.2.1.zz (n := 24) (Nat.le_trans HBK.out (by decide)) (by decide)).mono ?_
        intro e w5 hp
        have HR5 := Lib.hid (HPH.out.rest hp HNE.out (Nat.lt_succ_of_lt HSZ2.out) HE.out)
        obtain ⟨⟨rfl, hz5, hg5⟩, hf5⟩ := hp
        clear hz5 hg5 hf5 HPH ff cc
        go_wp2_with fail
        go_roundg (L (k / 16777216)).length
        case measure => exact HMS.out
        case rel => exact ⟨_, _, _, rfl, HR5⟩
end Go.Proofs.Ytfinbmnjfnajiaa.Mo
end
section
set_option linter.unusedVariables false
set_option linter.unusedSimpArgs false
namespace Go.Proofs.Ytfinbmnjfnajiaa.Mq
open Go.RowKit Go.Proofs.YtfinbmnjfnajiaaW.PrintWords Go.Proofs.YtfinbmnjfnajiaaW.PrintLast Go.Proofs.YtfinbmnjfnajiaaW.PrintMore Go.Proofs.Ytfinbmnjfnajiaa.PW Go.Proofs.Ytfinbmnjfnajiaa.Pc Go.Proofs.Ytfinbmnjfnajiaa.Ma Go.Proofs.Ytfinbmnjfnajiaa.Mb Go.Proofs.Ytfinbmnjfnajiaa.Mc Go.Proofs.Ytfinbmnjfnajiaa.Md Go.Proofs.Ytfinbmnjfnajiaa.Me Go.Proofs.Ytfinbmnjfnajiaa.Mi Go.Proofs.Ytfinbmnjfnajiaa.Mj Go.Proofs.Ytfinbmnjfnajiaa.Mk Go.Proofs.Ytfinbmnjfnajiaa.Ml Go.Proofs.Ytfinbmnjfnajiaa.Mn Go.Proofs.Ytfinbmnjfnajiaa.Mo Dg
open Pm (sgn)
def GivesC (w : World) (s : Int) (l : List Int) (c : Int) (e : Ending) (w' : World) : Prop :=
  ∃ u, e = .returned (.tuple #[.agg #[.int .i64 s, u], .int .i64 c]) ∧ Kd.R (Kd.int .i64) 2 w' w.heap.size (fun _ => True) u l ∧ Below w.heap.size w w'
set_option maxHeartbeats 1600000 in
theorem whole_yes {w : World} {q : Nat} {z : Int} (hz : Z w q z) (h1 : bl z.natAbs ≤ 2400) :
    Calls Try.prog 44 #[.pointer (some ⟨q, 0, none⟩)] w (GivesC w (sgn z) (L z.natAbs) 0) := by
  have hF := fun (W : World) (hb : Below w.heap.size w W) => fromBig_yes (hz.below hb) h1
  have HF := Lib.hid hF
  clear hF hz h1
  go_enter Try.func44, Try.ntmps44
  go_wp2_with fail
  refine (HF.out _ (Ma.below_alloc w _)).mono ?_
  rintro e w1 ⟨u, rfl, hR, hb⟩
  obtain ⟨A, c, rfl⟩ := Kd.R_slice hR
  have hB : w1.heap[w.heap.size]? = some (.cells #[.int .i64 0, .slice none 0 0] 26 (0, 0)) := (hb.block _ (by simp)).trans (heap_alloc_new w _)
  have c0 := blk_cell hB 0
  have c1 := blk_cell hB 1
  have f0 := blk_frozen hB 0
  have f1 := blk_frozen hB 1
  simp only [List.getElem?_toArray, List.getElem?_cons_zero, List.getElem?_cons_succ] at c0 c1
  have HB := Lib.hid hB
  have HR := Lib.hid (Kd.R_lower (base' := w.heap.size) hR (by simp))
  have HBL := Lib.hid (below_then (Ma.below_alloc w _) hb)
  clear hB hR hb
  have hlt : w.heap.size < w1.heap.size := (Array.getElem?_eq_some_iff.1 HB.out).1
  go_wp2
  have hB2 := blk_set (blk_set HB.out 0 (.int .i64 (sgn z))) 1 (.slice A (L z.natAbs).length c)
  have hb3 := Ma.below_alloc ((w1.setCell ⟨w.heap.size, 0, none⟩ (.int .i64 (sgn z))).setCell ⟨w.heap.size, 1, none⟩ (.slice A (L z.natAbs).length c)) (.cells #[.int .i64 (sgn z), .slice A (L z.natAbs).length c] 26)
  have hR3 := Kd.R_below (Kd.R_set (Kd.R_set HR.out HB.out (by decide) 0 (.int .i64 (sgn z))) (blk_set HB.out 0 (.int .i64 (sgn z))) (by decide) 1 (.slice A (L z.natAbs).length c)) hb3
  have hBE := below_then ((HBL.out.setCell (p := ⟨w.heap.size, 0, none⟩) (Nat.le_refl _) (.int .i64 (sgn z))).setCell (p := ⟨w.heap.size, 1, none⟩) (Nat.le_refl _) (.slice A (L z.natAbs).length c)) hb3
  exact bodyPost_ret (results_ct rfl _ _ w.heap.size 26 #[.int .i64 (sgn z), .slice A (L z.natAbs).length c] (0, 0) _ rfl ((hb3.block _ (Array.getElem?_eq_some_iff.1 hB2).1).trans hB2) Try.underlying26 rfl sizeW) rfl ⟨_, rfl, hR3, hBE⟩
set_option maxHeartbeats 1600000 in
theorem whole_no {w : World} {q : Nat} {z : Int} (hz : Z w q z) (h0 : bl z.natAbs ≤ 268435456) (h1 : ¬ bl z.natAbs ≤ 2400) :
    Calls Try.prog 44 #[.pointer (some ⟨q, 0, none⟩)] w (GivesC w 0 [] 3) := by
  have hF := fun (W : World) (hb : Below w.heap.size w W) => fromBig_no (hz.below hb) h0 h1
  have HF := Lib.hid hF
  clear hF hz h1 h0
  go_enter Try.func44, Try.ntmps44
  go_wp2_with fail
  refine (HF.out _ (Ma.below_alloc w _)).mono ?_
  rintro e w1 ⟨u, rfl, hR, hb⟩
  obtain ⟨A, c, rfl⟩ := Kd.R_slice hR
  have hB : w1.heap[w.heap.size]? = some (.cells #[.int .i64 0, .slice none 0 0] 26 (0, 0)) := (hb.block _ (by simp)).trans (heap_alloc_new w _)
  have c0 := blk_cell hB 0
  have c1 := blk_cell hB 1
  have f0 := blk_frozen hB 0
  have f1 := blk_frozen hB 1
  simp only [List.getElem?_toArray, List.getElem?_cons_zero, List.getElem?_cons_succ] at c0 c1
  have HB := Lib.hid hB
  have HBL := Lib.hid (below_then (Ma.below_alloc w _) hb)
  clear hB hR hb
  have hlt : w.heap.size < w1.heap.size := (Array.getElem?_eq_some_iff.1 HB.out).1
  go_wp2
  have hB2 := blk_set (blk_set HB.out 0 (.int .i64 0)) 1 (.slice none 0 0)
  have hb3 := Ma.below_alloc ((w1.setCell ⟨w.heap.size, 0, none⟩ (.int .i64 0)).setCell ⟨w.heap.size, 1, none⟩ (.slice none 0 0)) (.cells #[.int .i64 0, .slice A 0 c] 26)
  have hBE := below_then ((HBL.out.setCell (p := ⟨w.heap.size, 0, none⟩) (Nat.le_refl _) (.int .i64 0)).setCell (p := ⟨w.heap.size, 1, none⟩) (Nat.le_refl _) (.slice none 0 0)) hb3
  exact bodyPost_ret (results_ct rfl _ _ w.heap.size 26 #[.int .i64 0, .slice none 0 0] (0, 0) _ rfl ((hb3.block _ (Array.getElem?_eq_some_iff.1 hB2).1).trans hB2) Try.underlying26 rfl sizeW) rfl ⟨_, rfl, Kd.R_nil _ _ _ _ _, hBE⟩
end Go.Proofs.Ytfinbmnjfnajiaa.Mq
end
section
set_option linter.unusedVariables false
set_option linter.unusedSimpArgs false
namespace Go.Proofs.Ytfinbmnjfnajiaa.Mr
open Go.RowKit Go.Proofs.YtfinbmnjfnajiaaW.PrintWords Go.Proofs.Ytfinbmnjfnajiaa.PW Go.Proofs.Ytfinbmnjfnajiaa.Pc Go.Proofs.Ytfinbmnjfnajiaa.Pb Go.Proofs.Ytfinbmnjfnajiaa.Pw Go.Proofs.Ytfinbmnjfnajiaa.Ma Go.Proofs.Ytfinbmnjfnajiaa.Mb Go.Proofs.Ytfinbmnjfnajiaa.Mc Go.Proofs.Ytfinbmnjfnajiaa.Md Go.Proofs.Ytfinbmnjfnajiaa.Me Go.Proofs.Ytfinbmnjfnajiaa.Mg Go.Proofs.Ytfinbmnjfnajiaa.Mh Go.Proofs.Ytfinbmnjfnajiaa.Mq Dg
theorem fit_yes {z : Int} (h : bl z.natAbs ≤ 2400) : fit z = (Pm.sgn z, L z.natAbs, 0) := by unfold fit; rw [if_pos h]
theorem fit_no {z : Int} (h : ¬ bl z.natAbs ≤ 2400) : fit z = (0, [], 3) := by unfold fit; rw [if_neg h]
theorem whole {w : World} {q : Nat} {z : Int} (hz : Z w q z) (h0 : bl z.natAbs ≤ 268435456) :
    Calls Try.prog 44 #[.pointer (some ⟨q, 0, none⟩)] w (GivesC w (fit z).1 (fit z).2.1 (fit z).2.2) := by
  by_cases h : bl z.natAbs ≤ 2400
  · rw [fit_yes h]; exact whole_yes hz h
  · rw [fit_no h]; exact whole_no hz h0 h
def both (s0 : Int) (l0 : List Int) (s1 : Int) (l1 : List Int) (z : Int) : Int × List Int × Int := if isW s0 l0 = true ∧ isW s1 l1 = true then fit z else (0, [], 1)
theorem twoBoxes (w : World) (a0 : Int) (A0 : Option Addr) (n0 c0 : Nat) (a1 : Int) (A1 : Option Addr) (n1 c1 : Nat) : ∀ W, Below (w.heap.size + 2) ((w.alloc (.cells #[.int .i64 a0, .slice A0 n0 c0] 26)).alloc (.cells #[.int .i64 a1, .slice A1 n1 c1] 26)) W →
    Below w.heap.size w W ∧ W.cell? ⟨w.heap.size, 0, none⟩ = some (.int .i64 a0) ∧ W.cell? ⟨w.heap.size, 1, none⟩ = some (.slice A0 n0 c0) ∧ W.cell? ⟨w.heap.size + 1, 0, none⟩ = some (.int .i64 a1) ∧ W.cell? ⟨w.heap.size + 1, 1, none⟩ = some (.slice A1 n1 c1) ∧ w.heap.size + 2 ≤ W.heap.size := by
  intro W hW
  have e1 : (w.alloc (.cells #[.int .i64 a0, .slice A0 n0 c0] 26)).heap.size = w.heap.size + 1 := by simp
  have hx := (hW.block w.heap.size (by omega)).trans (((Ma.below_alloc (w.alloc (.cells #[.int .i64 a0, .slice A0 n0 c0] 26)) _).block w.heap.size (by simp)).trans (heap_alloc_new w _))
  have hy := (hW.block (w.heap.size + 1) (by omega)).trans (show _ = some (.cells #[.int .i64 a1, .slice A1 n1 c1] 26 (0, 0)) by have := heap_alloc_new (w.alloc (.cells #[.int .i64 a0, .slice A0 n0 c0] 26)) (.cells #[.int .i64 a1, .slice A1 n1 c1] 26); rw [e1] at this; exact this)
  exact ⟨(below_then (Ma.below_alloc w _) (Ma.below_alloc _ _)).trans (hW.mono (by omega)), blk_cell hx 0, blk_cell hx 1, blk_cell hy 0, blk_cell hy 1, by have := hW.size; simp at this; exact this⟩
end Go.Proofs.Ytfinbmnjfnajiaa.Mr
end
section
set_option linter.unusedVariables false
set_option linter.unusedSimpArgs false
namespace Go.Proofs.Ytfinbmnjfnajiaa.Mu
open Go.RowKit Go.Proofs.YtfinbmnjfnajiaaW.PrintWords Go.Proofs.Ytfinbmnjfnajiaa.PW Go.Proofs.Ytfinbmnjfnajiaa.Pc Go.Proofs.Ytfinbmnjfnajiaa.Pb Go.Proofs.Ytfinbmnjfnajiaa.Pw Go.Proofs.Ytfinbmnjfnajiaa.Ma Go.Proofs.Ytfinbmnjfnajiaa.Mb Go.Proofs.Ytfinbmnjfnajiaa.Mc Go.Proofs.Ytfinbmnjfnajiaa.Md Go.Proofs.Ytfinbmnjfnajiaa.Me Go.Proofs.Ytfinbmnjfnajiaa.Mg Go.Proofs.Ytfinbmnjfnajiaa.Mh Go.Proofs.Ytfinbmnjfnajiaa.Mq Go.Proofs.Ytfinbmnjfnajiaa.Mr Dg
theorem alloc_size (w : World) (o : Obj) : (w.alloc o).heap.size = w.heap.size + 1 := by simp
theorem threeBoxes (w : World) (a0 : Int) (A0 : Option Addr) (n0 c0 : Nat) (a1 : Int) (A1 : Option Addr) (n1 c1 : Nat) : ∀ W, Below (w.heap.size + 3) (((w.alloc (.cells #[.int .i64 a0, .slice A0 n0 c0] 26)).alloc (.cells #[.int .i64 a1, .slice A1 n1 c1] 26)).alloc (.cells #[.int .i64 0, .slice none 0 0] 26)) W →
    Below w.heap.size w W ∧ W.cell? ⟨w.heap.size, 0, none⟩ = some (.int .i64 a0) ∧ W.cell? ⟨w.heap.size, 1, none⟩ = some (.slice A0 n0 c0) ∧ W.cell? ⟨w.heap.size + 1, 0, none⟩ = some (.int .i64 a1) ∧ W.cell? ⟨w.heap.size + 1, 1, none⟩ = some (.slice A1 n1 c1) ∧ (w.heap.size + 3 ≤ W.heap.size ∧ w.heap.size < W.heap.size ∧ w.heap.size + 1 < W.heap.size ∧ w.heap.size + 1 + 1 < W.heap.size) ∧ W.heap[w.heap.size + 1 + 1]? = some (.cells #[.int .i64 0, .slice none 0 0] 26 (0, 0)) := by
  intro W hW
  have e2 : ((w.alloc (.cells #[.int .i64 a0, .slice A0 n0 c0] 26)).alloc (.cells #[.int .i64 a1, .slice A1 n1 c1] 26)).heap.size = w.heap.size + 2 := by rw [alloc_size, alloc_size]
  have hz : ((((w.alloc (.cells #[.int .i64 a0, .slice A0 n0 c0] 26)).alloc (.cells #[.int .i64 a1, .slice A1 n1 c1] 26)).alloc (.cells #[.int .i64 0, .slice none 0 0] 26))).heap[w.heap.size + 2]? = some (.cells #[.int .i64 0, .slice none 0 0] 26 (0, 0)) := by
    have := heap_alloc_new ((w.alloc (.cells #[.int .i64 a0, .slice A0 n0 c0] 26)).alloc (.cells #[.int .i64 a1, .slice A1 n1 c1] 26)) (.cells #[.int .i64 0, .slice none 0 0] 26)
    rw [e2] at this; exact this
  have hb := Ma.below_alloc ((w.alloc (.cells #[.int .i64 a0, .slice A0 n0 c0] 26)).alloc (.cells #[.int .i64 a1, .slice A1 n1 c1] 26)) (.cells #[.int .i64 0, .slice none 0 0] 26)
  rw [e2] at hb
  obtain ⟨h1, h2, h3, h4, h5, h6⟩ := twoBoxes w a0 A0 n0 c0 a1 A1 n1 c1 W (hb.trans (hW.mono (by omega)))
  have h7 : w.heap.size + 3 ≤ W.heap.size := by have := hW.size; rw [alloc_size, e2] at this; exact this
  exact ⟨h1, h2, h3, h4, h5, ⟨h7, by omega, by omega, by omega⟩, (hW.block _ (by omega)).trans hz⟩
theorem boxAndResult (w : World) (a0 : Int) (A0 : Option Addr) (n0 c0 : Nat) : ∀ W, Below (w.heap.size + 2) ((w.alloc (.cells #[.int .i64 a0, .slice A0 n0 c0] 26)).alloc (.cells #[.int .i64 0, .slice none 0 0] 26)) W →
    Below w.heap.size w W ∧ W.cell? ⟨w.heap.size, 0, none⟩ = some (.int .i64 a0) ∧ W.cell? ⟨w.heap.size, 1, none⟩ = some (.slice A0 n0 c0) ∧ (w.heap.size + 2 ≤ W.heap.size ∧ w.heap.size < W.heap.size ∧ w.heap.size + 1 < W.heap.size) ∧ W.heap[w.heap.size + 1]? = some (.cells #[.int .i64 0, .slice none 0 0] 26 (0, 0)) := by
  intro W hW
  obtain ⟨h1, h2, h3, h4, h5, h6⟩ := twoBoxes w a0 A0 n0 c0 0 none 0 0 W hW
  refine ⟨h1, h2, h3, ⟨h6, by omega, by omega⟩, (hW.block _ (by omega)).trans ?_⟩
  have := heap_alloc_new (w.alloc (.cells #[.int .i64 a0, .slice A0 n0 c0] 26)) (.cells #[.int .i64 0, .slice none 0 0] 26)
  rw [alloc_size] at this; exact this
theorem storedW {w W : World} {g : Nat} {s : Int} {u : Value} {l : List Int} (hg : W.heap[g]? = some (.cells #[.int .i64 0, .slice none 0 0] 26 (0, 0))) (hb : Below w.heap.size w W) (hw : w.heap.size ≤ g) (hR : Kd.R (Kd.int .i64) 2 W w.heap.size (fun _ => True) u l) :
    (((W.setCell ⟨g, 0, none⟩ (.int .i64 s)).setCell ⟨g, 1, none⟩ u)).heap[g]? = some (.cells #[.int .i64 s, u] 26 (0, 0)) ∧ Kd.R (Kd.int .i64) 2 ((W.setCell ⟨g, 0, none⟩ (.int .i64 s)).setCell ⟨g, 1, none⟩ u) w.heap.size (fun _ => True) u l ∧ Below w.heap.size w ((W.setCell ⟨g, 0, none⟩ (.int .i64 s)).setCell ⟨g, 1, none⟩ u) :=
  ⟨blk_set (blk_set hg 0 _) 1 _, Kd.R_set (Kd.R_set hR hg (by decide) 0 _) (blk_set hg 0 _) (by decide) 1 _, (hb.setCell (p := ⟨g, 0, none⟩) hw _).setCell (p := ⟨g, 1, none⟩) hw _⟩
theorem cellsOf {W : World} {g : Nat} (hg : W.heap[g]? = some (.cells #[.int .i64 0, .slice none 0 0] 26 (0, 0))) : W.cell? ⟨g, 0, none⟩ = some (.int .i64 0) ∧ W.cell? ⟨g, 1, none⟩ = some (.slice none 0 0) ∧ W.frozen? ⟨g, 0, none⟩ = false ∧ W.frozen? ⟨g, 1, none⟩ = false :=
  ⟨blk_cell hg 0, blk_cell hg 1, blk_frozen hg 0, blk_frozen hg 1⟩
end Go.Proofs.Ytfinbmnjfnajiaa.Mu
end
section
set_option linter.unusedVariables false
set_option linter.unusedSimpArgs false
namespace Go.Proofs.Ytfinbmnjfnajiaa.Ta
open Go.RowKit Go.Proofs.YtfinbmnjfnajiaaW.PrintWords Go.Proofs.Ytfinbmnjfnajiaa.PW Go.Proofs.Ytfinbmnjfnajiaa.Pc Go.Proofs.Ytfinbmnjfnajiaa.Ma Go.Proofs.Ytfinbmnjfnajiaa.Mb Go.Proofs.Ytfinbmnjfnajiaa.Mc Go.Proofs.Ytfinbmnjfnajiaa.Md Go.Proofs.Ytfinbmnjfnajiaa.Me Go.Proofs.Ytfinbmnjfnajiaa.Mf Go.Proofs.Ytfinbmnjfnajiaa.Dy Dg
set_option maxHeartbeats 800000 in
theorem trimH {w : World} {A : Option Addr} {c : Nat} {xs : List Int} (h : Mg w A c xs) (hd : Dig 4294967296 xs) (hl : xs.length ≤ 1099511627776) :
    Calls Try.prog 95 #[.slice A xs.length c] w (fun e w' => ∃ m, e = .returned (.slice A m c) ∧ (∃ n, w' = w.drewN n) ∧ m ≤ xs.length ∧ D (val 4294967296 xs).toNat = xs.take m) := by
  have HM := Lib.hid h
  have hfin : ∀ m : Nat, m ≤ xs.length → (∀ j, m ≤ j → xs.getD j 0 = 0) → (m = 0 ∨ xs.getD (m - 1) 0 ≠ 0) → D (val 4294967296 xs).toNat = xs.take m := fun m h1 h2 h3 => Dy.trimmed hd h1 h2 h3
  have HF := Lib.hid hfin
  have hcell : ∀ (k n : Nat), k < xs.length → ∃ ad, A = some ad ∧ (w.drewN n).cell? (ad.add k) = some (.int .u32 (xs.getD k 0)) := by
    intro k n hk
    obtain ⟨ad, hA, hc⟩ := Kd.at_int h.1 (k : Int) (by omega) (by omega)
    rw [Int.toNat_natCast, rdN] at hc
    exact ⟨ad, hA, hc⟩
  have HC := Lib.hid hcell
  have hle := h.2
  generalize hn : xs.length = N at *
  have HN := Lib.hid hn
  clear h hfin hcell hd hn
  go_enter Try.func95, Try.ntmps95
  go_wp2_with fail
  go_loopg [0] N (fun k v wr => ∃ n : Nat, v = .slice A k c ∧ k ≤ N ∧ Hid (∀ j, k ≤ j → xs.getD j 0 = 0) ∧ wr = w.drewN n)
  case atStart => exact ⟨0, rfl, Nat.le_refl _, Lib.hid (fun j hj => getD_ge (by have := HN.out; omega)), rfl⟩
  case round =>
    obtain ⟨n, rfl, hk, HZ, rfl⟩ := hrel
    cases gk with
    | zero =>
      have HE := Lib.hid (HF.out 0 (Nat.zero_le _) HZ.out (.inl rfl))
      clear HZ
      go_wp2
      go_ret
      exact ⟨0, rfl, ⟨_, rfl⟩, by omega, HE.out⟩
    | succ m =>
      obtain ⟨ad, hA, hc⟩ := HC.out m n (by have := HN.out; omega)
      subst hA
      have hw : IntKind.i64.wrap (((m + 1 : Nat) : Int) - 1) = (m : Int) := by rw [IntKind.wrap_i64]; omega
      by_cases h0 : xs.getD m 0 = 0
      · have HZ2 := Lib.hid (show ∀ j, m ≤ j → xs.getD j 0 = 0 from fun j hj => by
          rcases Nat.eq_or_lt_of_le hj with rfl | h
          · exact h0
          · exact HZ.out j h)
        rw [h0] at hc
        clear h0 HZ
        obtain ⟨i010, hi010, _, hsz10, _⟩ := info_parts infoU
        have hcut := cut_to (P := Try.prog) 61 110 .i64 Try.underlying61 hi010 (some ad) (m + 1) c (m : Int) (by omega) (by omega) (by omega)
        clear hi010 hsz10
        go_wp2
        go_roundg m
        case measure => omega
        case rel => exact ⟨_, rfl, by omega, HZ2, rfl⟩
      · have HE := Lib.hid (HF.out (m + 1) hk HZ.out (.inr h0))
        have h0b : (xs.getD m 0 == 0) = false := by simpa using h0
        clear h0 HZ
        generalize xs.getD m 0 = x at *
        go_wp2
        go_ret
        exact ⟨m + 1, rfl, ⟨_, rfl⟩, hk, HE.out⟩
def Row (w : World) (g : Nat) (ys : List Int) : Prop := w.heap[g]? = some (.cells (ys.map (Value.int .u32)).toArray 110 (0, 0))
theorem Row.cell {w : World} {g : Nat} {ys : List Int} (h : Row w g ys) {k : Nat} (hk : k < ys.length) : w.cell? ⟨g, k, none⟩ = some (.int .u32 (ys.getD k 0)) ∧ w.frozen? ⟨g, k, none⟩ = false := by
  have h1 := blk_cell h k
  refine ⟨?_, blk_frozen h k⟩
  rw [h1, List.getElem?_toArray, List.getElem?_map, List.getElem?_eq_getElem hk, getD_lt hk]; rfl
theorem Row.set {w : World} {g : Nat} {ys : List Int} (h : Row w g ys) (k : Nat) (x : Int) : Row (w.setCell ⟨g, k, none⟩ (.int .u32 x)) g (ys.set k x) := by
  unfold Row
  rw [blk_set h k, nums_set]
theorem Row.lt {w : World} {g : Nat} {ys : List Int} (h : Row w g ys) : g < w.heap.size := (Array.getElem?_eq_some_iff.1 h).1
theorem Row.mg {w : World} {g : Nat} {ys : List Int} (h : Row w g ys) (hl : ys.length ≤ 9223372036854775807) : Mg w (some ⟨g, 0, none⟩) ys.length ys := Mg.row h (by simp) hl
theorem Row.grown {w w1 : World} {g : Nat} {ys : List Int} (h : Row w g ys) {q : Option Nat} (hg : w.grownBy w1 q) (hne : some g ≠ q) : Row w1 g ys := (hg.block g h.lt hne).trans h
theorem Row.below {w w1 : World} {g B : Nat} {ys : List Int} (h : Row w g ys) (hb : Below B w w1) (hlt : g < B) : Row w1 g ys := (hb.block g hlt).trans h
set_option maxHeartbeats 1600000 in
set_option maxRecDepth 100000 in
theorem leftH {w : World} {A : Option Addr} {c a n : Nat} (ha : Mg w A c (D a)) (h0 : a ≠ 0) (h1 : bl a ≤ 536870912) (h2 : n < 32) :
    Calls Try.prog 99 #[.slice A (D a).length c, .int .u64 n] w (fun e w' => ∃ m ys, e = .returned (.slice (some ⟨w.heap.size, 0, none⟩) m ys.length) ∧ Row w' w.heap.size ys ∧ D (a * 2 ^ n) = ys.take m ∧ m ≤ ys.length ∧ ys.length = (D a).length + 1 ∧ Below w.heap.size w w') := by
  have hl1 := D_len a
  have hp := D_pos h0
  have hcell : ∀ (k : Nat) (W : World), k < (D a).length → Below w.heap.size w W → ∃ ad, A = some ad ∧ W.cell? (ad.add k) = some (.int .u32 ((D a).getD k 0)) := by
    intro k W hk hb
    obtain ⟨ad, hA, hc⟩ := Kd.at_int ha.1 (k : Int) (by omega) (by omega)
    rw [Int.toNat_natCast, rdN] at hc
    exact ⟨ad, hA, (hb.cell (World.block_lt_of_cell? w _ hc)).trans hc⟩
  have hfin : ∀ (ys : List Int) (W : World), Lf (D a) n (D a).length ys → Row W w.heap.size ys → Below w.heap.size w W →
      Calls Try.prog 95 #[.slice (some ⟨w.heap.size, 0, none⟩) ((D a).length + 1) ((D a).length + 1)] W (fun e w' => ∃ m ys, e = .returned (.slice (some ⟨w.heap.size, 0, none⟩) m ys.length) ∧ Row w' w.heap.size ys ∧ D (a * 2 ^ n) = ys.take m ∧ m ≤ ys.length ∧ ys.length = (D a).length + 1 ∧ Below w.heap.size w w') := by
    intro ys W hL hR hb
    have := trimH (hR.mg (by have := hL.len; omega)) hL.dig (by have := hL.len; omega)
    rw [hL.len] at this
    refine this.mono ?_
    rintro e w' ⟨m, rfl, ⟨k, rfl⟩, hm, hD⟩
    rw [hL.done] at hD
    exact ⟨m, ys, by rw [hL.len], hR, hD, by rw [hL.len]; exact hm, hL.len, pw_below_drewN hb k⟩
  have hstep : ∀ (ys : List Int) (i : Nat), Lf (D a) n i ys → i < (D a).length → ∃ u s : Int, IntKind.u64.wrap ((D a).getD i 0 * 2 ^ n) = s ∧ 0 ≤ s ∧ s < 18446744073709551616 ∧ 0 ≤ u ∧ u < 4294967296 ∧ ys.getD i 0 = u ∧ bits .or .u32 u (s % 4294967296) = u + s % 4294967296 ∧
      Lf (D a) n (i + 1) ((ys.set i (u + s % 4294967296)).set (i + 1) (s / 4294967296)) ∧ s / 4294967296 % 4294967296 = s / 4294967296 := by
    intro ys i hL hi
    obtain ⟨h, h1, h2, h3, h4, h5, h6, h7, h8⟩ := hL.step (D_dig a) (by assumption) hi rfl
    have hu := hL.dig.all0 (by decide) i
    exact ⟨_, _, Po.wraps_u64 _ h3 h4, h3, h4, hu.1, hu.2, rfl, h2, h, by omega⟩
  have HC := Lib.hid hcell
  have HF := Lib.hid hfin
  have HS := Lib.hid hstep
  have hst := Lib.hid (Lf.start (D a) n)
  have hdig : ∀ k, 0 ≤ (D a).getD k 0 ∧ (D a).getD k 0 < 4294967296 := fun k => (D_dig a).all0 (by decide) k
  have HD := Lib.hid hdig
  clear hcell hfin hstep hdig ha
  generalize hla : (D a).length = la at *
  have HLA := Lib.hid hla
  have hla2 : la ≤ 536870912 := by omega
  clear hla hl1 h1 h0
  have hmk := run_make_row' (P := Try.prog) 61 110 (.int .u32 0) 4 Try.underlying61 infoU rfl .i64 .i64 (la + 1) (by omega) (by omega)
  simp only [Int.natCast_add, Int.natCast_one] at hmk
  have HBEL := Lib.hid (show Below w.heap.size w ((w.alloc (.cells (madeCells #[Value.int .u32 0] (la + 1)) 110))) from (below_alloc w _))
  have HBLK := Lib.hid (show Row ((w.alloc (.cells (madeCells #[Value.int .u32 0] (la + 1)) 110))) w.heap.size (List.replicate (la + 1) 0) by
    unfold Row
    rw [show ((List.replicate (la + 1) (0 : Int)).map (Value.int .u32)).toArray = madeCells #[Value.int .u32 0] (la + 1) by rw [← made_list]]
    exact heap_alloc_new w _)
  have e1 : Int.tdiv (n : Int) 32 = 0 := Int.tdiv_eq_zero_of_lt (by omega) (by omega)
  have e2 : Int.tmod (n : Int) 32 = (n : Int) := Int.tmod_eq_of_lt (by omega) (by omega)
  go_enter Try.func99, Try.ntmps99
  go_wp2
  clear hmk
  go_loopw [22] (fun i wr => ∃ (k : Nat) (ys : List Int), i = .int .i64 k ∧ k ≤ la ∧ Hid (Lf (D a) n k ys) ∧ Hid (Row wr w.heap.size ys) ∧ Hid (Below w.heap.size w wr)) (fun i _ => la - (intOf i).toNat)
  case atStart => exact ⟨0, _, rfl, by omega, hst, HBLK, HBEL⟩
  case round =>
    clear hst HBLK HBEL
    obtain ⟨k, ys, rfl, hk, HO, HW, HBR⟩ := hrel
    by_cases hkb : k < la
    · obtain ⟨ad, hA, hcell⟩ := HC.out k wr hkb HBR.out
      subst hA
      obtain ⟨u, s, hs1, hs6, hs7, hs8, hs9, hs2, hs3, hL, hs4⟩ := HS.out ys k HO.out hkb
      obtain ⟨hx0, hx1⟩ := HD.out k
      have hyl : ys.length = la + 1 := by rw [HO.out.len, HLA.out]
      obtain ⟨hrow, hfro⟩ := HW.out.cell (k := k) (by omega)
      rw [hs2] at hrow
      have hW1 := HW.out.set k (u + s % 4294967296)
      obtain ⟨hrow2, hfro2⟩ := hW1.cell (k := k + 1) (by rw [List.length_set]; omega)
      have HW2 := Lib.hid (hW1.set (k + 1) (s / 4294967296))
      have HB2 := Lib.hid ((HBR.out.setCell (p := ⟨w.heap.size, k, none⟩) (Nat.le_refl _) (.int .u32 (u + s % 4294967296))).setCell (p := ⟨w.heap.size, k + 1, none⟩) (Nat.le_refl _) (.int .u32 (s / 4294967296)))
      have HL := Lib.hid hL
      generalize (ys.set k (u + s % 4294967296)).getD (k + 1) 0 = y1 at *
      generalize (D a).getD k 0 = x at *
      clear hs2 hyl hW1 hL HO HW HBR
      go_wp2
      go_roundw
      case rel => exact ⟨k + 1, _, by go_num, by omega, HL, HW2, HB2⟩
      case measure => simp [intOf]; omega
    · obtain rfl : la = k := by omega
      have HE := Lib.hid (HF.out ys wr HO.out HW.out HBR.out)
      clear HO HW HBR
      go_wp2_with (go_at_call 95; refine HE.out.mono ?_; rintro e w2 ⟨m, zs, rfl, hz⟩; have HZ := Lib.hid hz; clear hz)
      go_ret
      exact ⟨m, zs, rfl, HZ.out⟩
end Go.Proofs.Ytfinbmnjfnajiaa.Ta
end
section
set_option linter.unusedVariables false
set_option linter.unusedSimpArgs false
namespace Go.Proofs.Ytfinbmnjfnajiaa.Tb
open Go.RowKit Go.Proofs.YtfinbmnjfnajiaaW.PrintWords Go.Proofs.Ytfinbmnjfnajiaa.PW Go.Proofs.Ytfinbmnjfnajiaa.Pc Go.Proofs.Ytfinbmnjfnajiaa.Ma Go.Proofs.Ytfinbmnjfnajiaa.Mb Go.Proofs.Ytfinbmnjfnajiaa.Mc Go.Proofs.Ytfinbmnjfnajiaa.Md Go.Proofs.Ytfinbmnjfnajiaa.Me Go.Proofs.Ytfinbmnjfnajiaa.Mf Go.Proofs.Ytfinbmnjfnajiaa.Dy Go.Proofs.Ytfinbmnjfnajiaa.Ta Dg
def Own (w : World) (g : Nat) (xs : List Int) : Prop := ∃ cur : Array Value, w.heap[g]? = some (.cells cur 110 (0, 0)) ∧ ∀ k, k < xs.length → cur[k]? = some (.int .u32 (xs.getD k 0))
section
variable {w w1 : World} {g : Nat} {xs : List Int}
theorem Own.cell (h : Own w g xs) {k : Nat} (hk : k < xs.length) : w.cell? ⟨g, k, none⟩ = some (.int .u32 (xs.getD k 0)) ∧ w.frozen? ⟨g, k, none⟩ = false := by
  obtain ⟨cur, hb, hc⟩ := h
  exact ⟨(blk_cell hb k).trans (hc k hk), blk_frozen hb k⟩
theorem Own.lt (h : Own w g xs) : g < w.heap.size := by
  obtain ⟨cur, hb, hc⟩ := h
  exact (Array.getElem?_eq_some_iff.1 hb).1
theorem Own.set (h : Own w g xs) {k : Nat} (hk : k < xs.length) (x : Int) : Own (w.setCell ⟨g, k, none⟩ (.int .u32 x)) g (xs.set k x) := by
  obtain ⟨cur, hb, hc⟩ := h
  refine ⟨_, blk_set hb k _, fun j hj => ?_⟩
  rw [List.length_set] at hj
  have hs : k < cur.size := by
    have := hc k hk
    exact (Array.getElem?_eq_some_iff.1 this).1
  by_cases e : j = k
  · subst e
    rw [Array.getElem?_setIfInBounds_self_of_lt hs, Dg.getD_set_eq hk]
  · rw [Array.getElem?_setIfInBounds_ne (by omega), Dg.getD_set_ne (by omega)]
    exact hc j hj
theorem Own.far (h : Own w g xs) {p : Addr} (hp : g ≠ p.block) (u : Value) : Own (w.setCell p u) g xs := by
  obtain ⟨cur, hb, hc⟩ := h
  exact ⟨cur, blk_far hb hp u, hc⟩
theorem Own.grown (h : Own w g xs) {q : Option Nat} (hg : w.grownBy w1 q) (hne : some g ≠ q) : Own w1 g xs := by
  obtain ⟨cur, hb, hc⟩ := h
  exact ⟨cur, (hg.block g (Array.getElem?_eq_some_iff.1 hb).1 hne).trans hb, hc⟩
theorem Own.below (h : Own w g xs) {B : Nat} (hb : Below B w w1) (hlt : g < B) : Own w1 g xs := by
  obtain ⟨cur, hc, h2⟩ := h
  exact ⟨cur, (hb.block g hlt).trans hc, h2⟩
theorem Own.kept (h : Own w g xs) (hb : Below w.heap.size w w1) : Own w1 g xs := h.below hb h.lt
theorem Own.take (h : Own w g xs) (m : Nat) : Own w g (xs.take m) := by
  obtain ⟨cur, hb, hc⟩ := h
  refine ⟨cur, hb, fun k hk => ?_⟩
  rw [List.length_take] at hk
  rw [hc k (by omega), getD_lt (l := xs) (by omega), getD_lt (l := xs.take m) (by rw [List.length_take]; omega), List.getElem_take]
theorem Own.mg (h : Own w g xs) {c : Nat} (hl : xs.length ≤ 9223372036854775807) (hc0 : xs.length ≤ c) : Mg w (some ⟨g, 0, none⟩) c xs := by
  obtain ⟨cur, hb, hc⟩ := h
  refine ⟨⟨rfl, hl, fun _ => ⟨_, rfl, fun j p hp => ⟨[.int .u32 p], rfl, rfl, fun i u hu => ?_⟩⟩⟩, hc0⟩
  have hi : i = 0 := by
    have := (List.getElem?_eq_some_iff.1 hu).1
    simp at this
    exact this
  subst hi
  simp at hu
  subst hu
  have hsz : (Kd.int .u32).sz = 1 := rfl
  have hj : j < xs.length := (List.getElem?_eq_some_iff.1 hp).1
  rw [hsz, Nat.mul_one, Nat.add_zero, add_plain, blk_cell hb, hc j hj, getD_lt hj]
  rw [List.getElem?_eq_getElem hj] at hp
  injection hp with hp
  rw [hp]
theorem Own.of_row (h : Row w g xs) : Own w g xs := by
  refine ⟨_, h, fun k hk => ?_⟩
  rw [List.getElem?_toArray, List.getElem?_map, List.getElem?_eq_getElem hk, getD_lt hk]; rfl
theorem Own.of_R {base : Nat} {ok : Nat → Prop} {v : Value} (h : (Kd.int .u32).R 110 w base ok v xs) (hn : xs ≠ []) : ∃ g c, v = .slice (some ⟨g, 0, none⟩) xs.length c ∧ Own w g xs ∧ base ≤ g ∧ xs.length ≤ c ∧ c ≤ 9223372036854775807 ∧ ok g := by
  have ho := Kd.own_of_R h
  obtain ⟨hl, ⟨rfl, h0⟩ | ⟨g, cap, cur, rfl, hg, hb, h1, h2, h3, h4⟩⟩ := ho
  · exact absurd (List.length_eq_zero_iff.1 h0) hn
  · refine ⟨g, cap, rfl, ⟨cur, hb, fun k hk => ?_⟩, hg, h1, by simpa [maxLen] using h2, h.1 g rfl⟩
    have h5 := congrArg (fun l => l[k]?) h4
    simp only [Nat.mul_one] at h5
    rw [List.getElem?_take_of_lt hk, Array.getElem?_toList] at h5
    rw [h5]
    simp [encs, getD_lt hk, hk]
theorem Own.R_row {base m : Nat} {ok : Nat → Prop} (h : Row w g xs) (hm : m ≤ xs.length) (hb : base ≤ g) (hl : xs.length ≤ 9223372036854775807) (hok : ok g) : (Kd.int .u32).R 110 w base ok (.slice (some ⟨g, 0, none⟩) m xs.length) (xs.take m) := by
  have hlen : (xs.take m).length = m := by rw [List.length_take]; omega
  refine Kd.R_of_own ?_ (fun k hk => by injection hk with hk; subst hk; exact hok)
  rw [hlen]
  refine ⟨by rw [encs_length, hlen, Nat.mul_one], .inr ⟨g, xs.length, _, rfl, hb, h, hm, by simpa [maxLen] using hl, by simp, ?_⟩⟩
  simp [encs, List.map_take]
end
end Go.Proofs.Ytfinbmnjfnajiaa.Tb
end
section
set_option linter.unusedVariables false
set_option linter.unusedSimpArgs false
namespace Go.Proofs.Ytfinbmnjfnajiaa.Tc
open Go.RowKit Go.Proofs.YtfinbmnjfnajiaaW.PrintWords Go.Proofs.Ytfinbmnjfnajiaa.PW Go.Proofs.Ytfinbmnjfnajiaa.Pc Go.Proofs.Ytfinbmnjfnajiaa.Ma Go.Proofs.Ytfinbmnjfnajiaa.Mb Go.Proofs.Ytfinbmnjfnajiaa.Mc Go.Proofs.Ytfinbmnjfnajiaa.Md Go.Proofs.Ytfinbmnjfnajiaa.Me Go.Proofs.Ytfinbmnjfnajiaa.Mf Go.Proofs.Ytfinbmnjfnajiaa.Dy Go.Proofs.Ytfinbmnjfnajiaa.Ta Go.Proofs.Ytfinbmnjfnajiaa.Tb Dg Go.Proofs.Ytfinbmnjfnajiaa.Dv Go.Proofs.Ytfinbmnjfnajiaa.Dw Go.Proofs.Ytfinbmnjfnajiaa.Dx Go.Proofs.Ytfinbmnjfnajiaa.Du
def GivesTwo (w : World) (q r : Nat) (e : Ending) (w' : World) : Prop :=
  ∃ A c B d, e = .returned (.tuple #[.slice A (D q).length c, .slice B (D r).length d]) ∧ Mg w' A c (D q) ∧ Mg w' B d (D r) ∧ Below w.heap.size w w'
theorem D_small {b : Nat} (h0 : b ≠ 0) (h1 : b < 4294967296) : D b = [(b : Int)] := by
  refine (D_eq (l := [(b : Int)]) (Dig.cons (by omega) (by show (b : Int) < 4294967296; omega) Dig.nil) (by intro _ h; simp at h; omega) ?_).symm
  simp [val_cons, val_nil]
theorem or64 {r d : Int} (r0 : 0 ≤ r) (r1 : r < 4294967296) (d0 : 0 ≤ d) (d1 : d < 4294967296) : bits .or .u64 (r * 4294967296) d = r * 4294967296 + d := by
  have := Po.or_high (x := d) (y := r) d0 d1 r0 r1
  obtain ⟨a, rfl⟩ := Int.eq_ofNat_of_zero_le d0
  obtain ⟨b, rfl⟩ := Int.eq_ofNat_of_zero_le r0
  have e2 : (b : Int) * 4294967296 = ((b * 4294967296 : Nat) : Int) := by simp
  have h1 : a < 2 ^ 64 := by omega
  have h2 : b * 4294967296 < 2 ^ 64 := by omega
  rw [e2, (bits_nat .u64 64 (by decide) Po.wraps_u64 _ _ h1 h2).2] at this
  rw [e2, (bits_nat .u64 64 (by decide) Po.wraps_u64 _ _ h2 h1).2, Nat.or_comm, this]
  omega
set_option maxHeartbeats 800000 in
set_option maxRecDepth 100000 in
theorem divSmall {w : World} {A B : Option Addr} {c d a b : Nat} (ha : Mg w A c (D a)) (hb : Mg w B d (D b)) (h1 : bl a ≤ 268435456) (h2 : bl b ≤ 268435456) (h : a < b) :
    Calls Try.prog 71 #[.slice A (D a).length c, .slice B (D b).length d] w (GivesTwo w (a / b) (a % b)) := by
  rw [Nat.div_eq_of_lt h, Nat.mod_eq_of_lt h]
  have hC := cCmp ha hb (by omega) (by omega)
  rw [show Pm.sgn ((a : Int) - b) = -1 by unfold Pm.sgn; rw [if_pos (by omega)]] at hC
  have hL := fun (W : World) (hbl : Below w.heap.size w W) => (cClone (ha.below hbl) (by omega)).mono fun e w' h => GivesMg.of hbl h
  have HC := Lib.hid hC
  have HL := Lib.hid hL
  clear hC hL ha hb h1 h2 h
  have hD0 : (D 0).length = 0 := by rw [D_zero]; rfl
  have HD0 := Lib.hid hD0
  clear hD0
  generalize (D b).length = lb at *
  go_enter Try.func71, Try.ntmps71
  go_wp2_with (first | (go_at_call 107; refine HC.out.mono ?_; rintro e w1 ⟨rfl, n, rfl⟩; have HL1 := Lib.hid (HL.out (w.drewN n) (below_drawn n)); clear HC) | (go_at_call 108; refine HL1.out.mono ?_; rintro e w2 ⟨A2, c2, rfl, hm2, hb2⟩; have HE := Lib.hid (show GivesTwo w 0 a (.returned (.tuple #[.slice none 0 0, .slice A2 (D a).length c2])) w2 from ⟨none, 0, A2, c2, by rw [HD0.out], by rw [D_zero]; exact Mg.nil _, hm2, hb2⟩); clear hm2 hb2))
  go_ret2
  exact HE.out
theorem GivesTwo.of {w w1 w2 : World} {q r : Nat} {A B : Option Addr} {c d : Nat} (h1 : Mg w1 A c (D q)) (hb : Below w1.heap.size w1 w2) (h2 : Mg w2 B d (D r)) (hw : Below w.heap.size w w2) :
    GivesTwo w q r (.returned (.tuple #[.slice A (D q).length c, .slice B (D r).length d])) w2 := ⟨A, c, B, d, rfl, h1.below hb, h2, hw⟩
set_option maxHeartbeats 1600000 in
set_option maxRecDepth 100000 in
theorem divOne {w : World} {A B : Option Addr} {c d a b : Nat} (ha : Mg w A c (D a)) (hb : Mg w B d (D b)) (h1 : bl a ≤ 268435456) (h0 : b ≠ 0) (h2 : b < 4294967296) (h : b ≤ a) :
    Calls Try.prog 71 #[.slice A (D a).length c, .slice B (D b).length d] w (GivesTwo w (a / b) (a % b)) := by
  have hbl : bl b ≤ bl a := bl_mono h
  have hDb := D_small h0 h2
  have hC := cCmp ha hb (by omega) (by omega)
  have hl1 := D_len a
  have hcellA : ∀ (k : Nat) (W : World), k < (D a).length → Below w.heap.size w W → ∃ ad, A = some ad ∧ W.cell? (ad.add k) = some (.int .u32 ((D a).getD k 0)) := by
    intro k W hk hb
    obtain ⟨ad, hA, hc⟩ := Kd.at_int ha.1 (k : Int) (by omega) (by omega)
    rw [Int.toNat_natCast, rdN] at hc
    exact ⟨ad, hA, (hb.cell (World.block_lt_of_cell? w _ hc)).trans hc⟩
  have hcellB : ∃ bd, B = some bd ∧ ∀ W : World, Below w.heap.size w W → W.cell? bd = some (.int .u32 (b : Int)) := by
    obtain ⟨bd, hB, hc⟩ := Kd.at_int hb.1 (0 : Int) (by omega) (by rw [hDb]; simp)
    rw [show (0 : Int).toNat = 0 from rfl, show rd (D b) (0 : Int) = (b : Int) by rw [hDb]; rfl] at hc
    refine ⟨bd, hB, fun W hbW => ?_⟩
    have e : bd.add 0 = bd := by simp [Addr.add]
    rw [e] at hc
    exact (hbW.cell (World.block_lt_of_cell? w _ hc)).trans hc
  obtain ⟨bd, rfl, hcellB⟩ := hcellB
  have hT1 : ∀ (out : List Int) (rr : Int) (W : World), So (D a) (b : Int) 0 out rr → Row W w.heap.size out → Below w.heap.size w W → rr = ((a % b : Nat) : Int) ∧ Calls Try.prog 95 #[.slice (some ⟨w.heap.size, 0, none⟩) (D a).length (D a).length] W (GivesMg w (a / b)) := by
    intro out rr W hS hR hbW
    obtain ⟨e1, e2⟩ := hS.done
    have := cTrim (hR.mg (by have := hS.len; omega)) hS.dig (by have := hS.len; omega)
    rw [e1, Int.toNat_natCast, hS.len] at this
    exact ⟨e2, this.mono fun e w' h => GivesMg.of hbW h⟩
  have hT2 : ∀ (W : World), Calls Try.prog 95 #[.slice (some ⟨W.heap.size, 0, none⟩) 1 1] (W.alloc (.cells #[.int .u32 ((a % b : Nat) : Int)] 110)) (GivesMg W (a % b)) := by
    intro W
    have hlt := Nat.mod_lt a (Nat.pos_of_ne_zero h0)
    have hm : Mg (W.alloc (.cells #[.int .u32 ((a % b : Nat) : Int)] 110)) (some ⟨W.heap.size, 0, none⟩) 1 [((a % b : Nat) : Int)] := Mg.row (xs := [((a % b : Nat) : Int)]) (heap_alloc_new W _) rfl (by simp)
    have := cTrim hm (Dig.cons (by omega) (by show ((a % b : Nat) : Int) < 4294967296; omega) Dig.nil) (by simp)
    rw [show (val 4294967296 [((a % b : Nat) : Int)]).toNat = a % b by rw [val_cons, val_nil, Int.mul_zero, Int.add_zero, Int.toNat_natCast]] at this
    exact this.mono fun e w' h => GivesMg.of (below_alloc W _) h
  have hstep : ∀ (t : Nat) (out : List Int) (rr : Int), So (D a) (b : Int) (t + 1) out rr → t < (D a).length → ∃ x q m : Int, bits .or .u64 (rr * 4294967296) ((D a).getD t 0) = x ∧ x.tdiv b = q ∧ x.tmod b = m ∧ So (D a) (b : Int) t (out.set t q) m ∧
      0 ≤ x ∧ x < 18446744073709551616 ∧ 0 ≤ q ∧ q < 4294967296 ∧ 0 ≤ m ∧ m < b ∧ 0 ≤ rr ∧ rr < b := by
    intro t out rr hS ht
    obtain ⟨s1, s2, s3, s4, s5⟩ := hS.step (D_dig a) (by omega) ht rfl
    have hr := hS.fr
    have hd := (D_dig a).all0 (by decide) t
    refine ⟨_, _, _, or64 hr.1 (by omega) hd.1 hd.2, Int.tdiv_eq_ediv_of_nonneg s2, Int.tmod_eq_emod_of_nonneg s2, s1, s2, s3, s4, s5, s1.fr.1, s1.fr.2, hr.1, hr.2⟩
  have hst := Lib.hid (So.start (a := D a) (b := (b : Int)) (by omega))
  have hdig : ∀ k, 0 ≤ (D a).getD k 0 ∧ (D a).getD k 0 < 4294967296 := fun k => (D_dig a).all0 (by decide) k
  rw [show (D b).length = 1 by rw [hDb]; rfl]
  rw [show (D b).length = 1 by rw [hDb]; rfl] at hC
  have hsg : Pm.sgn ((a : Int) - b) = 0 ∨ Pm.sgn ((a : Int) - b) = 1 := by unfold Pm.sgn; split <;> (try split) <;> omega
  have HC := Lib.hid hC
  have HCA := Lib.hid hcellA
  have HCB := Lib.hid hcellB
  have HT1 := Lib.hid hT1
  have HT2 := Lib.hid hT2
  have HS := Lib.hid hstep
  have HD := Lib.hid hdig
  clear hC hcellA hcellB hT1 hT2 hstep hdig ha hb hbl h hDb
  have hla : (D a).length ≤ 268435456 := by omega
  have hb0 : 0 < (b : Int) := by omega
  have hb1 : (b : Int) < 4294967296 := by omega
  generalize hbb : (b : Int) = bb at *
  have hbne : (bb == 0) = false := by simp; omega
  clear hbb hl1 h1
  have hlt := Nat.mod_lt a (Nat.pos_of_ne_zero h0)
  generalize a % b = r0 at *
  generalize a / b = q0 at *
  generalize hla0 : (D a).length = la at *
  have HLA := Lib.hid hla0
  clear hla0
  generalize Pm.sgn ((a : Int) - bb) = sg at *
  have hmk := run_make_row' (P := Try.prog) 61 110 (.int .u32 0) 4 Try.underlying61 infoU rfl .i64 .i64 la (by omega) (by omega)
  have HBEL := Lib.hid (show ∀ n : Nat, Below w.heap.size w ((w.drewN n).alloc (.cells (madeCells #[Value.int .u32 0] la) 110)) from fun n => below_then (below_drawn n) (below_alloc (w.drewN n) _))
  have HBLK := Lib.hid (show ∀ n : Nat, Row ((w.drewN n).alloc (.cells (madeCells #[Value.int .u32 0] la) 110)) w.heap.size (List.replicate la 0) from fun n => by
    unfold Row
    rw [show ((List.replicate la (0 : Int)).map (Value.int .u32)).toArray = madeCells #[Value.int .u32 0] la by rw [← made_list]]
    exact heap_alloc_new (w.drewN n) _)
  have hsg2 : ¬ sg < 0 := by omega
  clear hsg
  go_enter Try.func71, Try.ntmps71
  go_wp2_with (go_at_call 107; refine HC.out.mono ?_; rintro e w1 ⟨rfl, n, rfl⟩; clear HC)
  go_loopw [7, 8] (fun r i wr => ∃ (t : Nat) (j rr : Int) (out : List Int), r = .int .u64 rr ∧ i = .int .i64 j ∧ j + 1 = (t : Int) ∧ t ≤ la ∧ Hid (So (D a) bb t out rr) ∧ Hid (Row wr w.heap.size out) ∧ Hid (Below w.heap.size w wr)) (fun _ i _ => (intOf i + 1).toNat)
  case atStart =>
    exact ⟨la, _, _, _, rfl, rfl, by omega, by omega, hst, Lib.hid (HBLK.out n), Lib.hid (HBEL.out n)⟩
  case round =>
    clear hst HBLK HBEL
    obtain ⟨t, j, rr, out, rfl, rfl, hj, ht, HO, HW, HBR⟩ := hrel
    cases t with
    | zero =>
      obtain rfl : j = -1 := by omega
      clear hj
      obtain ⟨hrr, hc⟩ := HT1.out out rr wr HO.out HW.out HBR.out
      have HC1 := Lib.hid hc
      subst hrr
      clear hc HO HW HBR
      go_wp2_with fail
      refine HC1.out.mono ?_
      rintro e w2 ⟨A2, c2, rfl, hm2, hb2⟩
      have HC2 := Lib.hid (HT2.out w2)
      have HM2 := Lib.hid hm2
      have HB2 := Lib.hid hb2
      clear hm2 hb2
      go_wp2_with fail
      refine HC2.out.mono ?_
      rintro e w3 ⟨A3, c3, rfl, hm3, hb3⟩
      have HE := Lib.hid (GivesTwo.of HM2.out hb3 hm3 (below_then HB2.out hb3))
      clear hm3 hb3
      go_wp2
      go_ret2
      exact HE.out
    | succ k =>
      obtain rfl : j = (k : Int) := by omega
      clear hj
      obtain ⟨ad, hA, hcell⟩ := HCA.out k wr (by omega) HBR.out
      subst hA
      have hcb := HCB.out wr HBR.out
      obtain ⟨x, q, m, hs1, hs2, hs3, hS, hx0, hx1, hq0, hq1, hm0, hm1, hr0, hr1⟩ := HS.out k out rr HO.out (by omega)
      obtain ⟨hrow, hfro⟩ := HW.out.cell (k := k) (by have := HO.out.len; have := HLA.out; omega)
      have HW2 := Lib.hid (HW.out.set k q)
      have HB2 := Lib.hid (HBR.out.setCell (p := ⟨w.heap.size, k, none⟩) (Nat.le_refl _) (.int .u32 q))
      have hcb2 := HCB.out _ HB2.out
      have HS2 := Lib.hid hS
      obtain ⟨hd0, hd1⟩ := HD.out k
      generalize out.getD k 0 = y at *
      generalize (D a).getD k 0 = dd at *
      clear hS HO HW HBR
      go_wp2
      go_roundw
      case rel => exact ⟨k, _, _, _, rfl, rfl, by omega, by omega, HS2, HW2, HB2⟩
      case measure => (simp [intOf]) <;> omega
end Go.Proofs.Ytfinbmnjfnajiaa.Tc
end
section
set_option linter.unusedVariables false
set_option linter.unusedSimpArgs false
namespace Go.Proofs.Ytfinbmnjfnajiaa.Te
open Go.RowKit Go.Proofs.YtfinbmnjfnajiaaW.PrintWords Go.Proofs.Ytfinbmnjfnajiaa.PW Go.Proofs.Ytfinbmnjfnajiaa.Pc Go.Proofs.Ytfinbmnjfnajiaa.Ma Go.Proofs.Ytfinbmnjfnajiaa.Mb Go.Proofs.Ytfinbmnjfnajiaa.Mc Go.Proofs.Ytfinbmnjfnajiaa.Md Go.Proofs.Ytfinbmnjfnajiaa.Me Go.Proofs.Ytfinbmnjfnajiaa.Mf Go.Proofs.Ytfinbmnjfnajiaa.Dy Go.Proofs.Ytfinbmnjfnajiaa.Ta Go.Proofs.Ytfinbmnjfnajiaa.Tb Go.Proofs.Ytfinbmnjfnajiaa.Tc Dg Go.Proofs.Ytfinbmnjfnajiaa.Dv Go.Proofs.Ytfinbmnjfnajiaa.Dw Go.Proofs.Ytfinbmnjfnajiaa.Dx Go.Proofs.Ytfinbmnjfnajiaa.Du
theorem and64 {x : Int} (h0 : 0 ≤ x) (h1 : x < 18446744073709551616) : bits .and .u64 x 4294967295 = x % 4294967296 := by
  obtain ⟨a, rfl⟩ := Int.eq_ofNat_of_zero_le h0
  have h2 : a < 2 ^ 64 := by omega
  have := (bits_nat .u64 64 (by decide) Po.wraps_u64 a 4294967295 h2 (by decide)).1
  rw [show ((4294967295 : Nat) : Int) = 4294967295 from rfl] at this
  rw [this, show (4294967295 : Nat) = 2 ^ 32 - 1 from rfl, Nat.and_two_pow_sub_one_eq_mod]
  omega
theorem subFacts {r0 b r : List Int} {g c bo cs : Int} {i q : Nat} (h : Ms r0 b g i q r c bo) (hb : Dig 4294967296 b) (hg0 : 0 ≤ g) (hg1 : g < 4294967296) (hq : q ≤ b.length) (hi : i + q < r.length) (hcs : cs = c + g * b.getD q 0) :
    ∃ lo now : Int, bits .and .u64 cs 4294967295 = lo ∧ IntKind.u64.wrap (IntKind.u64.wrap (r.getD (i + q) 0 - lo) - bo) = now ∧ Ms r0 b g i (q + 1) (r.set (i + q) (now % 4294967296)) (cs / 4294967296) (now / 9223372036854775808) ∧
      0 ≤ cs ∧ cs < 18446744073709551616 ∧ 0 ≤ lo ∧ lo < 4294967296 ∧ 0 ≤ now ∧ now < 18446744073709551616 ∧ 0 ≤ bo ∧ bo ≤ 1 ∧ 0 ≤ c ∧ c < 4294967296 := by
  have hbk := hb.all0 (by decide) q
  obtain ⟨m0, m1⟩ := mul_lt_b hg0 hg1 hbk.1 hbk.2
  have hc := h.fc
  have hbo : 0 ≤ bo ∧ bo ≤ 1 := by rcases h.fb with h | h <;> omega
  have c0 : 0 ≤ cs := by omega
  have c1 : cs < 18446744073709551616 := by omega
  refine ⟨_, (r.getD (i + q) 0 - cs % 4294967296 - bo) % 18446744073709551616, and64 c0 c1, ?_, h.step hb hg0 hg1 hq hi hcs rfl, c0, c1, by omega, by omega, by omega, by omega, hbo.1, hbo.2, hc.1, hc.2⟩
  rw [IntKind.wrap_u64, IntKind.wrap_u64]
  omega
theorem addFacts {r0 b r : List Int} {c cc : Int} {i q : Nat} (h : Ab r0 b i q r c) (hb : Dig 4294967296 b) (hi : i + q < r.length) (hcc : cc = c + r.getD (i + q) 0 + b.getD q 0) :
    Ab r0 b i (q + 1) (r.set (i + q) (cc % 4294967296)) (cc / 4294967296) ∧ 0 ≤ c ∧ c ≤ 1 ∧ 0 ≤ cc ∧ cc < 8589934592 := by
  have hbk := hb.all0 (by decide) q
  have hrk := h.dig.all0 (by decide) (i + q)
  have hbk1 : b.getD q 0 < 4294967296 := hbk.2
  have hrk1 : r.getD (i + q) 0 < 4294967296 := hrk.2
  have hc : 0 ≤ c ∧ c ≤ 1 := by rcases h.fc with h | h <;> omega
  exact ⟨h.step hb hi hcc, hc.1, hc.2, by omega, by omega⟩
theorem grown_refl (w : World) (r : Option Nat) : w.grownBy w r := ⟨rfl, rfl, rfl, Nat.le_refl _, fun _ _ _ => rfl⟩
theorem grown_set {a w : World} {g k : Nat} (h : a.grownBy w (some g)) (u : Value) : a.grownBy (w.setCell ⟨g, k, none⟩ u) (some g) :=
  ⟨h.os, h.tape, h.output, by simpa [World.setCell] using h.size, fun i hi hne => (Below.heap_setCell w _ u i (by
    rintro rfl
    exact hne rfl)).trans (h.block i hi hne)⟩
end Go.Proofs.Ytfinbmnjfnajiaa.Te
end
section
set_option linter.unusedVariables false
set_option linter.unusedSimpArgs false
namespace Go.Proofs.Ytfinbmnjfnajiaa.Td
open Go.RowKit Go.Proofs.YtfinbmnjfnajiaaW.PrintWords Go.Proofs.Ytfinbmnjfnajiaa.PW Go.Proofs.Ytfinbmnjfnajiaa.Pc Go.Proofs.Ytfinbmnjfnajiaa.Ma Go.Proofs.Ytfinbmnjfnajiaa.Mb Go.Proofs.Ytfinbmnjfnajiaa.Mc Go.Proofs.Ytfinbmnjfnajiaa.Md Go.Proofs.Ytfinbmnjfnajiaa.Me Go.Proofs.Ytfinbmnjfnajiaa.Mf Go.Proofs.Ytfinbmnjfnajiaa.Dy Go.Proofs.Ytfinbmnjfnajiaa.Ta Go.Proofs.Ytfinbmnjfnajiaa.Tb Go.Proofs.Ytfinbmnjfnajiaa.Tc Go.Proofs.Ytfinbmnjfnajiaa.Te Dg Go.Proofs.Ytfinbmnjfnajiaa.Dv Go.Proofs.Ytfinbmnjfnajiaa.Dw Go.Proofs.Ytfinbmnjfnajiaa.Dx Go.Proofs.Ytfinbmnjfnajiaa.Du
def LeftG (w : World) (x : Nat) (e : Ending) (w' : World) : Prop :=
  ∃ g c, e = .returned (.slice (some ⟨g, 0, none⟩) (D x).length c) ∧ w.heap.size ≤ g ∧ (Kd.int .u32).R 110 w' w.heap.size (fun _ => True) (.slice (some ⟨g, 0, none⟩) (D x).length c) (D x) ∧ Own w' g (D x) ∧ Below w.heap.size w w' ∧ g < w'.heap.size
theorem leftG {w : World} {A : Option Addr} {c a n : Nat} (ha : Mg w A c (D a)) (h0 : a ≠ 0) (h1 : bl a ≤ 268435456) (h2 : n < 32) :
    Calls Try.prog 99 #[.slice A (D a).length c, .int .u64 n] w (LeftG w (a * 2 ^ n)) := by
  have hl := D_len a
  refine (leftH ha h0 (by omega) h2).mono ?_
  rintro e w' ⟨m, ys, rfl, hR, hD, hm, hl, hb⟩
  have hlen : (D (a * 2 ^ n)).length = m := by rw [hD, List.length_take]; omega
  refine ⟨w.heap.size, ys.length, by rw [hlen], Nat.le_refl _, ?_, ?_, hb, hR.lt⟩
  · rw [hlen, hD]
    exact Own.R_row hR hm (Nat.le_refl _) (by omega) trivial
  · rw [hD]
    exact (Own.of_row hR).take m
set_option maxHeartbeats 40000000 in
set_option maxRecDepth 100000 in
theorem divLong {w : World} {A B : Option Addr} {c d a b : Nat} (ha : Mg w A c (D a)) (hb : Mg w B d (D b)) (h1 : bl a ≤ 268435456) (h0 : 2 ≤ (D b).length) (h : b ≤ a) :
    Calls Try.prog 71 #[.slice A (D a).length c, .slice B (D b).length d] w (GivesTwo w (a / b) (a % b)) := by
  have hbl : bl b ≤ bl a := bl_mono h
  have hb0 : b ≠ 0 := by rintro rfl; rw [D_zero] at h0; simp at h0
  have ha0 : a ≠ 0 := by omega
  obtain ⟨n, hlb, hDs, hsh, hble⟩ := dsor_of hb0 h0
  have hlb1 := D_len b
  have hla1 := D_len a
  have hbits : ((32 * (D b).length : Nat) : Int) - (bl b : Nat) = ((32 * (D b).length - bl b : Nat) : Int) := by omega
  generalize hs : 32 * (D b).length - bl b = s at *
  have hsp : 1 ≤ 2 ^ s := Nat.two_pow_pos s
  have hmono : (D a).length ≤ (D (a * 2 ^ s)).length := Pn.D_len_mono (Nat.le_mul_of_pos_right a hsp)
  have hmono2 : (D (b * 2 ^ s)).length ≤ (D (a * 2 ^ s)).length := Pn.D_len_mono (Nat.mul_le_mul_right _ h)
  have hlen2 : (D (a * 2 ^ s)).length ≤ bl (a * 2 ^ s) := D_len _
  have hbls : bl (a * 2 ^ s) ≤ bl a + s := bl_shift_le _ _
  obtain ⟨m, hm⟩ : ∃ m, (D (a * 2 ^ s)).length + 1 = m + (D (b * 2 ^ s)).length := ⟨_, (Nat.sub_add_cancel (by omega)).symm⟩
  have hC := cCmp ha hb (by omega) (by omega)
  have hsg : Pm.sgn ((a : Int) - b) = 0 ∨ Pm.sgn ((a : Int) - b) = 1 := by unfold Pm.sgn; split <;> (try split) <;> omega
  have hBits := fun k => cBits (hb.below (below_drawn k)) (by omega)
  have hLB := fun (W : World) (hbW : Below w.heap.size w W) => leftG (hb.below hbW) (n := s) hb0 (by omega) hsh
  have hLA := fun (W : World) (hbW : Below w.heap.size w W) => leftG (ha.below hbW) (n := s) ha0 (by omega) hsh
  have hst := Lib.hid (Lo.start (a := a * 2 ^ s) (m := m) hDs (by have := hDs.len; omega))
  have hQ : ∀ (r out : List Int) (g : Nat) (W : World), Lo ((a * 2 ^ s : Nat) : Int) (D (b * 2 ^ s)) 0 r out → out.length ≤ 1099511627776 → Own W g out → Calls Try.prog 95 #[.slice (some ⟨g, 0, none⟩) out.length out.length] W (GivesMg W (a / b)) := by
    intro r out g W hL hl hO
    have := cTrim (hO.mg (c := out.length) (by omega) (Nat.le_refl _)) hL.digo hl
    rw [(hL.done (D_val _) hb0).1, Int.toNat_natCast] at this
    exact this
  have hRT : ∀ (r out : List Int) (g c : Nat) (W : World), Lo ((a * 2 ^ s : Nat) : Int) (D (b * 2 ^ s)) 0 r out → r.length ≤ 1099511627776 → r.length ≤ c → Own W g r → Calls Try.prog 95 #[.slice (some ⟨g, 0, none⟩) r.length c] W (GivesMg W (a % b * 2 ^ s)) := by
    intro r out g c W hL hl hlc hO
    have := cTrim (hO.mg (c := c) (by omega) hlc) hL.dig hl
    rw [(hL.done (D_val _) hb0).2, Int.toNat_natCast] at this
    exact this
  have hSR : ∀ (A' : Option Addr) (c' : Nat) (W : World), Mg W A' c' (D (a % b * 2 ^ s)) → Calls Try.prog 110 #[.slice A' (D (a % b * 2 ^ s)).length c', .int .u64 s] W (GivesMg W (a % b)) := by
    intro A' c' W hm'
    have b1 : bl (a % b * 2 ^ s) ≤ bl (a % b) + s := bl_shift_le _ _
    have b2 : bl (a % b) ≤ bl a := bl_mono (Nat.mod_le _ _)
    have := cRight hm' (n := s) (by omega) (by omega)
    rwa [Nat.mul_div_cancel _ (by omega)] at this
  have HQ := Lib.hid hQ
  have HRT := Lib.hid hRT
  have HSR := Lib.hid hSR
  clear hQ hRT hSR
  have HC := Lib.hid hC
  have HBITS := Lib.hid hBits
  have HLB := Lib.hid hLB
  have HLA := Lib.hid hLA
  have HDS := Lib.hid hDs
  have HSH := Lib.hid (show (32 * (D b).length) = bl b + s by omega)
  have hlbs := hDs.len
  clear hC hBits hLB hLA ha hb h hDs hbits hble hs
  generalize hla0 : (D a).length = la at *
  generalize hlb0 : (D b).length = lb at *
  generalize hLA0 : (D (a * 2 ^ s)).length = LA at *
  generalize hLB0 : (D (b * 2 ^ s)).length = LB at *
  have HLA0 := Lib.hid hLA0
  have HLB0 := Lib.hid hLB0
  have hlb2 : 32 * lb = bl b + s := HSH.out
  generalize bl b = blb at *
  generalize bl a = bla at *
  generalize bl (a * 2 ^ s) = blas at *
  clear hla0 hlb0 hLA0 hLB0
  obtain rfl : LB = n + 2 := by omega
  obtain rfl : lb = n + 2 := by omega
  clear hlbs hlb
  generalize Pm.sgn ((a : Int) - b) = sg at *
  have hsg2 : ¬ sg < 0 := by omega
  clear hsg
  have hsw : (32 * ((n : Int) + 2) - (blb : Int)) = (s : Int) := by omega
  have hne1 : ((n : Int) + 2 == 1) = false := by simp; omega
  clear HSH hlb2
  go_enter Try.func71, Try.ntmps71
  go_wp2_with (first | (go_at_call 107; refine HC.out.mono ?_; rintro e w1 ⟨rfl, k, rfl⟩; clear HC) | (go_at_call 109; refine (HBITS.out _).mono ?_; rintro e w1 ⟨rfl, k2, rfl⟩; clear HBITS))
  refine (HLB.out (w.drewN (k + k2)) (below_drawn _)).mono ?_
  rintro e w1 ⟨gb, cb, rfl, hgb, -, hOB, hB1, hltb⟩
  rw [HLB0.out]
  have HOB := Lib.hid hOB
  have HB1 := Lib.hid (below_then (below_drawn (k + k2)) hB1)
  have hgb2 : w.heap.size ≤ gb := hgb
  clear hOB hB1 hgb HLB
  go_wp2_with fail
  refine (HLA.out w1 HB1.out).mono ?_
  rintro e w2 ⟨ga, ca, rfl, hga, hRa, -, hB2, -⟩
  rw [HLA0.out]
  rw [HLA0.out] at hRa
  have HRA := Aside0.mk hRa
  have HB2 := Lib.hid hB2
  have HSZ : w1.heap.size ≤ w2.heap.size := hB2.size
  have HLN := Aside0.mk (show ((D (a * 2 ^ s)).length + 1) * 4 ≤ 140737488355328 by rw [HLA0.out]; omega)
  clear hRa hB2 hga HLA
  go_wp2_with (first | ((with_reducible refine gate_builtin (b := .append) (xs := #[.tmp 84, .tmp 85]) rfl ?_); at_builtin; refine Kd.R_append (Kd.int .u32) (w0 := w1) w1.heap.size rfl (.tmp 84) (.tmp 85) 61 110 (.int .u32 0) 4 rfl Try.underlying61 infoU rfl (by decide) (by omega) _ (D (a * 2 ^ s)) 0 [.int .u32 0] (fun _ => True) (fun _ => False) rfl rfl rfl (fun _ hk => hk.elim) (fun _ _ => trivial) HRA.out HB2.out HSZ HLN.out ?_; intro v3 w3 ho hb3 hg3 hat3; obtain ⟨gr, cr, rfl, hOR, hgr, hcr1, hcr2, -⟩ := Own.of_R ho (by simp); rw [List.length_append, HLA0.out, List.length_singleton]; rw [List.length_append, HLA0.out, List.length_singleton] at hcr1; have HOR := Lib.hid hOR; have HB3 := Lib.hid hb3; clear ho hb3 hg3 hat3 hOR))
  clear HRA HB2 HLN
  have HOR2 := HOR
  have hgrlt := HOR.out.lt
  have HBW := Lib.hid (below_then HB1.out HB3.out)
  have HOB2 := Lib.hid (HOB.out.below HB3.out hltb)
  have hmk := run_make_row' (P := Try.prog) 61 110 (.int .u32 0) 4 Try.underlying61 infoU rfl .i64 .i64 m (by omega) (by omega)
  have hmpos : 1 ≤ m := by omega
  have hmle : m + n ≤ 536870912 := by omega
  have HGO := Lib.hid (show Own (w3.alloc (.cells (madeCells #[Value.int .u32 0] m) 110)) w3.heap.size (List.replicate m 0) from by
    refine Own.of_row ?_
    unfold Row
    rw [show ((List.replicate m (0 : Int)).map (Value.int .u32)).toArray = madeCells #[Value.int .u32 0] m by rw [← made_list]]
    exact heap_alloc_new w3 _)
  have HBA := Lib.hid (show Below w3.heap.size w3 (w3.alloc (.cells (madeCells #[Value.int .u32 0] m) 110)) from below_alloc w3 _)
  have hWg : w.heap.size ≤ w3.heap.size := HBW.out.size
  have hgbr : gb < gr := by omega
  have HLS := Lib.hid (show (D (a * 2 ^ s) ++ [0]).length = m + (n + 2) by rw [List.length_append, HLA0.out, List.length_singleton]; exact hm)
  clear HOR HB1 HB3 HOB
  clear hlb1 hbl hlen2 hbls h1
  go_loopw [10] (fun v wr => v = .slice (some ⟨gr, 0, none⟩) (m + (n + 2)) cr ∧ w3 = wr) (fun _ _ => 0)
  case atStart => exact ⟨rfl, rfl⟩
  case round =>
    obtain ⟨rfl, rfl⟩ := hrel
    go_wp2_with fail
    go_loopw [13] (fun i wr => ∃ (t : Nat) (j : Int) (r out : List Int), i = .int .i64 j ∧ j + 1 = (t : Int) ∧ t ≤ m ∧ r.length = m + (n + 2) ∧ out.length = m ∧ Hid (Lo ((a * 2 ^ s : Nat) : Int) (D (b * 2 ^ s)) t r out) ∧ Hid (Own wr gr r) ∧ Hid (Own wr w3.heap.size out) ∧ Hid (Own wr gb (D (b * 2 ^ s))) ∧ Hid (Below w.heap.size w wr)) (fun i _ => (intOf i + 1).toNat)
    case atStart =>
      exact ⟨m, _, _, _, rfl, by omega, Nat.le_refl _, HLS.out, by simp, hst, Lib.hid (HOR2.out.below HBA.out hgrlt), HGO, Lib.hid (HOB2.out.below HBA.out (by omega)), Lib.hid (below_then HBW.out HBA.out)⟩
    case round =>
      clear hst HGO HBA HLS HOR2 HOB2 hmk
      obtain ⟨t, j, r, out, rfl, hj, ht, hrl, hol, HLO, HR, HO, HB, HBE⟩ := hrel
      cases t with
      | zero =>
        obtain rfl : j = -1 := by omega
        clear hj
        have hq := HQ.out r out w3.heap.size wr HLO.out (by omega) HO.out
        rw [hol] at hq
        have hr := fun (W : World) (hbW : Below wr.heap.size wr W) => HRT.out r out gr cr W HLO.out (by omega) (by omega) (HR.out.kept hbW)
        rw [hrl] at hr
        have HQ1 := Lib.hid hq
        have HR1 := Lib.hid hr
        clear hq hr HLO HR HO HB HQ HRT
        go_wp2_with fail
        refine HQ1.out.mono ?_
        rintro e w5 ⟨A5, c5, rfl, hm5, hb5⟩
        have HR2 := Lib.hid (HR1.out w5 hb5)
        have HM5 := Lib.hid hm5
        have HB5 := Lib.hid hb5
        clear hm5 hb5 HR1 HQ1
        go_wp2_with fail
        refine HR2.out.mono ?_
        rintro e w6 ⟨A6, c6, rfl, hm6, hb6⟩
        have HS6 := Lib.hid (HSR.out A6 c6 w6 hm6)
        have HB6 := Lib.hid hb6
        clear hm6 hb6 HR2
        go_wp2_with fail
        refine HS6.out.mono ?_
        rintro e w7 ⟨A7, c7, rfl, hm7, hb7⟩
        have HE := Lib.hid (GivesTwo.of HM5.out (below_then HB6.out hb7) hm7 (below_then HBE.out (below_then HB5.out (below_then HB6.out hb7))))
        clear hm7 hb7
        go_wp2
        go_ret2
        exact HE.out
      | succ k =>
        obtain rfl : j = (k : Int) := by omega
        clear hj
        obtain ⟨hsc, hhd⟩ := HLO.out.scene HDS.out (by omega)
        have hbl2 : (D (b * 2 ^ s)).length = n + 2 := HLB0.out
        obtain ⟨hcb1, -⟩ := HB.out.cell (k := n + 1) (by omega)
        obtain ⟨hcb0, -⟩ := HB.out.cell (k := n) (by omega)
        obtain ⟨hcr2, -⟩ := HR.out.cell (k := k + n + 2) (by omega)
        obtain ⟨hcr1', -⟩ := HR.out.cell (k := k + n + 1) (by omega)
        obtain ⟨hcr0, -⟩ := HR.out.cell (k := k + n) (by omega)
        have hr2 := HLO.out.dig.all0 (by decide) (k + n + 2)
        have hr1 := HLO.out.dig.all0 (by decide) (k + n + 1)
        have hv1 := hsc.f1
        have hv0 := hsc.f2
        have hr0 := hsc.fw
        have hG := Gs.start hsc hhd
        have hor1 := or64 hr2.1 hr2.2 hr1.1 hr1.2
        have hh0 := hsc.fh
        have htd := Int.tdiv_eq_ediv_of_nonneg (b := (D (b * 2 ^ s)).getD (n + 1) 0) hh0
        have htm := Int.tmod_eq_emod_of_nonneg (b := (D (b * 2 ^ s)).getD (n + 1) 0) hh0
        have HSC := Lib.hid hsc
        have HHD := Lib.hid hhd
        have hhd2 : r.getD (k + n + 2) 0 * 4294967296 + r.getD (k + n + 1) 0 < 18446744073709551616 := by omega
        clear hsc hhd hbl2
        generalize (D (b * 2 ^ s)).getD (n + 1) 0 = v1 at *
        generalize (D (b * 2 ^ s)).getD n 0 = v2 at *
        generalize r.getD (k + n + 2) 0 = r2 at *
        generalize r.getD (k + n + 1) 0 = r1 at *
        generalize r.getD (k + n) 0 = r0 at *
        generalize r2 * 4294967296 + r1 = head at *
        generalize head / v1 = g0 at *
        generalize head % v1 = l0 at *
        have hg0 := hG.fg
        have hl0 := hG.fl
        have HG := Lib.hid hG
        have hvne : (v1 == 0) = false := by simp; omega
        clear hG
        have hcr1b : wr.cell? ⟨gr, k + (n + 1), none⟩ = some (.int .u32 r1) := hcr1'
        have hcr0b : wr.cell? ⟨gr, k + (n + 2) - 2, none⟩ = some (.int .u32 r0) := hcr0
        have hcr2b : wr.cell? ⟨gr, k + (n + 2), none⟩ = some (.int .u32 r2) := hcr2
        go_wp2_with fail
        go_region
        go_wp2_with fail
        go_region
        clear htd htm hor1 hg0 hl0 hcr2 hcr2b hcr1' hcr1b hr2 hr1 hh0 hhd2 hvne
        generalize (Value.pointer (some (⟨gr, k + (n + 2) - 1, none⟩ : Addr))) = dead1
        generalize (Value.pointer (some (⟨gb, n + 2 - 1, none⟩ : Addr))) = dead2
        go_upto_block 6 with fail
        go_cut [15, 16] from 142 to 179 (fun g l wx => ∃ (gg : Int) (nn : Nat), g = .int .u64 gg ∧ Hid (Gd (val 4294967296 r) (val 4294967296 (D (b * 2 ^ s)) * 4294967296 ^ k) gg) ∧ 0 ≤ gg ∧ gg < 4294967296 ∧ wx = wr.drewN nn)
        case first =>
          clear HQ HRT HSR HO HR HB HBE
          go_wp2_with fail
          go_loopw [15, 16] (fun g l wx => ∃ (gg ll : Int) (nn : Nat), g = .int .u64 gg ∧ l = .int .u64 ll ∧ Hid (Gs (val 4294967296 r) (val 4294967296 (D (b * 2 ^ s)) * 4294967296 ^ k) v1 head gg ll) ∧ wx = wr.drewN nn) (fun _ l _ => (4294967296 - intOf l).toNat)
          case atStart => exact ⟨g0, l0, 2, rfl, rfl, HG, rfl⟩
          case round =>
            clear HG
            obtain ⟨gg, ll, nn, rfl, rfl, HG, rfl⟩ := hrel
            have hfg := HG.out.fg
            have hfl := HG.out.fl
            by_cases hbig : 4294967296 ≤ gg
            · have hsh1 : (decide (0 < gg / 4294967296)) = true := by simp; omega
              have hg1 := (HG.out.less HSC.out (.inl hbig)).1
              go_wp2_with fail
              go_big_region
              by_cases hl : ll + v1 < 4294967296
              · have HN := Lib.hid (HG.out.again HSC.out (.inl hbig) hl)
                have hsh3 : (decide (0 < (ll + v1) / 4294967296)) = false := by simp; omega
                clear HG
                go_wp2
                go_roundw
                case rel => exact ⟨gg - 1, ll + v1, nn + 1, rfl, rfl, HN, rfl⟩
                case measure => (simp [intOf]) <;> omega
              · have HN := Lib.hid (HG.out.broke HSC.out HHD.out (.inl hbig) (by omega))
                have hsh3 : (decide (0 < (ll + v1) / 4294967296)) = true := by simp; omega
                have hg2 := HN.out.fg
                clear HG
                go_wp2
                go_meet
                case rel => exact ⟨gg - 1, nn + 1, rfl, HN, hg2.1, hg2.2, rfl⟩
            · have hsh1 : (decide (0 < gg / 4294967296)) = false := by simp; omega
              have hor2 := or64 hfl.1 hfl.2 hr0.1 hr0.2
              have hpb := mul_lt_b hfg.1 (by omega) hv0.1 hv0.2
              by_cases hcm : ll * 4294967296 + r0 < gg * v2
              · have HCM := Lib.hid hcm
                have hcb : (decide (ll * 4294967296 + r0 < gg * v2)) = true := by simpa using hcm
                clear hcm
                have HAG := Lib.hid (fun hl => HG.out.again HSC.out (.inr HCM.out) hl)
                have HBR := Lib.hid (fun hl => HG.out.broke HSC.out HHD.out (.inr HCM.out) hl)
                have hg1 := (HG.out.less HSC.out (.inr HCM.out)).1
                clear HCM
                generalize hpr : gg * v2 = pr at *
                go_wp2_with fail
                go_big_region
                by_cases hl : ll + v1 < 4294967296
                · have HN := Lib.hid (HAG.out hl)
                  have hsh3 : (decide (0 < (ll + v1) / 4294967296)) = false := by simp; omega
                  clear HG
                  go_wp2
                  go_roundw
                  case rel => exact ⟨gg - 1, ll + v1, nn + 1, rfl, rfl, HN, rfl⟩
                  case measure => (simp [intOf]) <;> omega
                · have HN := Lib.hid (HBR.out (by omega))
                  have hsh3 : (decide (0 < (ll + v1) / 4294967296)) = true := by simp; omega
                  have hg2 := HN.out.fg
                  clear HG
                  go_wp2
                  go_meet
                  case rel => exact ⟨gg - 1, nn + 1, rfl, HN, hg2.1, hg2.2, rfl⟩
              · have hle : gg * v2 ≤ ll * 4294967296 + r0 := by omega
                have HN := Lib.hid (HG.out.stop HSC.out (by omega) hle)
                have hcb : (decide (ll * 4294967296 + r0 < gg * v2)) = false := by simpa using hcm
                have hg2 := HN.out.fg
                clear hcm HG
                generalize hpr : gg * v2 = pr at *
                go_wp2_with fail
                go_big_region
                go_wp2
                go_meet
                case rel => exact ⟨gg, nn + 1, rfl, HN, hg2.1, hg2.2, rfl⟩
        case rest =>
          obtain ⟨gg, nn, rfl, HGD, hgg0, hgg1, rfl⟩ := hcut
          clear hcb1 hcb0 hcr0 hcr0b HG HSC HHD hv1 hv0 hr0
          have HR1 := Lib.hid (show Own (wr.drewN nn) gr r from HR.out)
          have HO1 := Lib.hid (show Own (wr.drewN nn) w3.heap.size out from HO.out)
          have HB1 := Lib.hid (show Own (wr.drewN nn) gb (D (b * 2 ^ s)) from HB.out)
          have HBE1 := Lib.hid (below_then HBE.out (below_drawn (w := wr) nn))
          clear HR HO HB HBE
          generalize wr.drewN nn = wx at *
          have HST := Lib.hid (Ms.start (b := D (b * 2 ^ s)) (g := gg) (i := k) HLO.out.dig)
          go_wp2_with fail
          go_loopw [17, 18, 19] (fun c bo kk wr2 => ∃ (q : Nat) (cc bb : Int) (r2 : List Int), c = .int .u64 cc ∧ bo = .int .u64 bb ∧ kk = .int .i64 q ∧ q ≤ n + 3 ∧ Hid (Ms r (D (b * 2 ^ s)) gg k q r2 cc bb) ∧ Hid (Own wr2 gr r2) ∧ Hid (wx.grownBy wr2 (some gr))) (fun _ _ i _ => n + 3 - (intOf i).toNat)
          case atStart => exact ⟨0, 0, 0, r, rfl, rfl, rfl, by omega, HST, HR1, Lib.hid (grown_refl _ _)⟩
          case round =>
            clear HST HR1
            obtain ⟨q, cc, bb, r2, rfl, rfl, rfl, hq, HM, HR2, HG2⟩ := hrel
            by_cases hqn : q ≤ n + 2
            · have hr2l : r2.length = m + (n + 2) := by rw [HM.out.len]; exact hrl
              obtain ⟨hrow, hfro⟩ := HR2.out.cell (k := k + q) (by omega)
              have hrk := HM.out.dig.all0 (by decide) (k + q)
              by_cases hqb : q < n + 2
              · have hbk := HDS.out.dig.all0 (by decide) q
                obtain ⟨hpr0, hpr1⟩ := mul_lt_b hgg0 hgg1 hbk.1 hbk.2
                obtain ⟨lo, now, hand, hnow, hM, hcs0, hcs1, hlo0, hlo1, hnw0, hnw1, hbo0, hbo1, hcc0, hcc1⟩ := subFacts HM.out HDS.out.dig hgg0 hgg1 (by rw [HDS.out.len]; omega) (by omega) rfl
                obtain ⟨hbc, -⟩ := (HB1.out.grown HG2.out (by simp; omega)).cell (k := q) (by rw [HDS.out.len]; omega)
                have HM2 := Lib.hid hM
                have HR3 := Lib.hid (HR2.out.set (k := k + q) (by omega) (now % 4294967296))
                have HG3 := Lib.hid (grown_set (k := k + q) HG2.out (.int .u32 (now % 4294967296)))
                clear hM HM HR2 HG2 hr2l
                generalize r2.getD (k + q) 0 = x at *
                generalize (D (b * 2 ^ s)).getD q 0 = bq at *
                generalize hpr : gg * bq = pr at *
                go_wp2
                go_roundw
                case rel => exact ⟨q + 1, _, _, _, rfl, rfl, by go_num, by omega, HM2, HR3, HG3⟩
                case measure => (simp [intOf]) <;> omega
              · obtain rfl : q = n + 2 := by omega
                have hbz : (D (b * 2 ^ s)).getD (n + 2) 0 = 0 := getD_ge (by rw [HDS.out.len]; omega)
                obtain ⟨lo, now, hand, hnow, hM, hcs0, hcs1, hlo0, hlo1, hnw0, hnw1, hbo0, hbo1, hcc0, hcc1⟩ := subFacts (cs := cc) HM.out HDS.out.dig hgg0 hgg1 (by rw [HDS.out.len]; omega) (by omega) (by rw [hbz, Int.mul_zero, Int.add_zero])
                have HM2 := Lib.hid hM
                have HR3 := Lib.hid (HR2.out.set (k := k + (n + 2)) (by omega) (now % 4294967296))
                have HG3 := Lib.hid (grown_set (k := k + (n + 2)) HG2.out (.int .u32 (now % 4294967296)))
                clear hM HM HR2 HG2 hr2l hbz
                generalize r2.getD (k + (n + 2)) 0 = x at *
                go_wp2
                go_roundw
                case rel => exact ⟨n + 2 + 1, _, _, _, rfl, rfl, by go_num, by omega, HM2, HR3, HG3⟩
                case measure => (simp [intOf]) <;> omega
            · obtain rfl : q = n + 3 := by omega
              have hr2l : r2.length = m + (n + 2) := by rw [HM.out.len]; exact hrl
              obtain rfl : cc = 0 := HM.out.fin (by rw [HDS.out.len]; omega)
              have HBC := Lib.hid (HB1.out.grown HG2.out (by simp; omega))
              have HOC := Lib.hid (HO1.out.grown HG2.out (by simp; omega))
              have HBEC := Lib.hid (below_grown HBE1.out HG2.out (by omega))
              rcases HM.out.fb with hbb | hbb
              · subst hbb
                have hL := right HLO.out (by omega) HGD.out (by have := HM.out; rw [HDS.out.len]; exact this)
                obtain ⟨hrow, hfro⟩ := HOC.out.cell (k := k) (by omega)
                have HO2 := Lib.hid (HOC.out.set (k := k) (by omega) gg)
                have HB2 := Lib.hid (HBC.out.far (p := ⟨w3.heap.size, k, none⟩) (by simp; omega) (.int .u32 gg))
                have HR3 := Lib.hid (HR2.out.far (p := ⟨w3.heap.size, k, none⟩) (by simp; omega) (.int .u32 gg))
                have HBE2 := Lib.hid (HBEC.out.setCell (p := ⟨w3.heap.size, k, none⟩) (by simp; omega) (.int .u32 gg))
                have HL := Lib.hid hL
                clear hL HM HBC HOC HBEC HR2 HG2 HLO HGD HB1 HO1 HBE1 HQ HRT HSR
                generalize out.getD k 0 = y at *
                go_wp2
                go_roundw
                case rel => exact ⟨k, (k : Int) - 1, r2, out.set k gg, rfl, by omega, by omega, hr2l, by rw [List.length_set]; exact hol, HL, HR3, HO2, HB2, HBE2⟩
                case measure => (simp [intOf]) <;> omega
              · subst hbb
                have hg2 := HGD.out.fg
                have HAS := Lib.hid (Ab.start (b := D (b * 2 ^ s)) (i := k) HM.out.dig)
                have HGG := Lib.hid (show ∀ (c : Int) (r3 : List Int), Ab r2 (D (b * 2 ^ s)) k (n + 3) r3 c → Lo ((a * 2 ^ s : Nat) : Int) (D (b * 2 ^ s)) k r3 (out.set k (gg - 1)) ∧ 1 ≤ gg from fun c r3 hA =>
                  back HLO.out HDS.out.dig (by omega) HGD.out (by have := HM.out; rw [HDS.out.len]; exact this) (by rw [HDS.out.len]; exact hA))
                have hg1 : 1 ≤ gg := by
                  have h3 := HM.out.inv
                  rcases Int.lt_or_le gg 1 with h4 | h4
                  · exfalso
                    obtain rfl : gg = 0 := by omega
                    have hlt := val_lt (B := 4294967296) (by decide) HM.out.dig
                    have hz := HLO.out.zeros HDS.out.dig
                    have h6 := lt_of_zeros (m := k + (n + 3)) HM.out.dig (fun j hj => (HM.out.far j hj).trans (hz j (by rw [HDS.out.len]; omega)))
                    have h7 := val_nonneg HLO.out.dig
                    rw [Int.zero_mul, Int.zero_mul, Int.sub_zero, Int.zero_add, Int.one_mul] at h3
                    omega
                  · exact h4
                have hdr := HM.out.dig
                clear HM HLO HGD HB1 HO1 HBE1 HQ HRT HSR HG2
                go_wp2_with fail
                go_loopw [21, 22] (fun c kk wr3 => ∃ (q : Nat) (cc : Int) (r3 : List Int), c = .int .u64 cc ∧ kk = .int .i64 q ∧ q ≤ n + 3 ∧ Hid (Ab r2 (D (b * 2 ^ s)) k q r3 cc) ∧ Hid (Own wr3 gr r3) ∧ Hid (wr.grownBy wr3 (some gr))) (fun _ i _ => n + 3 - (intOf i).toNat)
                case atStart => exact ⟨0, 0, r2, rfl, rfl, by omega, HAS, HR2, Lib.hid (grown_refl _ _)⟩
                case round =>
                  clear HAS HR2 hdr
                  obtain ⟨q, cc, r3, rfl, rfl, hq3, HA, HR3, HG3⟩ := hrel
                  have hr3l : r3.length = m + (n + 2) := by rw [HA.out.len]; exact hr2l
                  by_cases hqn3 : q ≤ n + 2
                  · obtain ⟨hrow, hfro⟩ := HR3.out.cell (k := k + q) (by omega)
                    have hrk := HA.out.dig.all0 (by decide) (k + q)
                    by_cases hqb : q < n + 2
                    · have hbk := HDS.out.dig.all0 (by decide) q
                      obtain ⟨hA2, hc0, hc1, hcc0, hcc1⟩ := addFacts HA.out HDS.out.dig (by omega) rfl
                      obtain ⟨hbc, -⟩ := (HBC.out.grown HG3.out (by simp; omega)).cell (k := q) (by rw [HDS.out.len]; omega)
                      have HA3 := Lib.hid hA2
                      have HR4 := Lib.hid (HR3.out.set (k := k + q) (by omega) ((cc + r3.getD (k + q) 0 + (D (b * 2 ^ s)).getD q 0) % 4294967296))
                      have HG4 := Lib.hid (grown_set (k := k + q) HG3.out (.int .u32 ((cc + r3.getD (k + q) 0 + (D (b * 2 ^ s)).getD q 0) % 4294967296)))
                      clear hA2 HA HR3 HG3 hr3l
                      generalize r3.getD (k + q) 0 = x at *
                      generalize (D (b * 2 ^ s)).getD q 0 = bq at *
                      go_wp2
                      go_roundw
                      case rel => exact ⟨q + 1, _, _, rfl, by go_num, by omega, HA3, HR4, HG4⟩
                      case measure => (simp [intOf]) <;> omega
                    · obtain rfl : q = n + 2 := by omega
                      have hbz : (D (b * 2 ^ s)).getD (n + 2) 0 = 0 := getD_ge (by rw [HDS.out.len]; omega)
                      obtain ⟨hA2, hc0, hc1, hcc0, hcc1⟩ := addFacts (cc := cc + r3.getD (k + (n + 2)) 0) HA.out HDS.out.dig (by omega) (by rw [hbz, Int.add_zero])
                      have HA3 := Lib.hid hA2
                      have HR4 := Lib.hid (HR3.out.set (k := k + (n + 2)) (by omega) ((cc + r3.getD (k + (n + 2)) 0) % 4294967296))
                      have HG4 := Lib.hid (grown_set (k := k + (n + 2)) HG3.out (.int .u32 ((cc + r3.getD (k + (n + 2)) 0) % 4294967296)))
                      clear hA2 HA HR3 HG3 hr3l hbz
                      generalize r3.getD (k + (n + 2)) 0 = x at *
                      go_wp2
                      go_roundw
                      case rel => exact ⟨n + 2 + 1, _, _, rfl, by go_num, by omega, HA3, HR4, HG4⟩
                      case measure => (simp [intOf]) <;> omega
                  · obtain rfl : q = n + 3 := by omega
                    obtain ⟨hL, -⟩ := HGG.out cc r3 HA.out
                    have hOC2 := HOC.out.grown HG3.out (by simp; omega)
                    have hBE3 := below_grown HBEC.out HG3.out (by omega)
                    obtain ⟨hrow, hfro⟩ := hOC2.cell (k := k) (by omega)
                    have HO2 := Lib.hid (hOC2.set (k := k) (by omega) (gg - 1))
                    have HB2 := Lib.hid ((HBC.out.grown HG3.out (by simp; omega)).far (p := ⟨w3.heap.size, k, none⟩) (by simp; omega) (.int .u32 (gg - 1)))
                    have HR4 := Lib.hid (HR3.out.far (p := ⟨w3.heap.size, k, none⟩) (by simp; omega) (.int .u32 (gg - 1)))
                    have HBE2 := Lib.hid (hBE3.setCell (p := ⟨w3.heap.size, k, none⟩) (by simp; omega) (.int .u32 (gg - 1)))
                    have HL := Lib.hid hL
                    clear hL HA HBC HOC HBEC HR3 HG3 HGG hOC2 hBE3
                    generalize out.getD k 0 = y at *
                    go_wp2
                    go_roundw
                    case rel => exact ⟨k, (k : Int) - 1, r3, out.set k (gg - 1), rfl, by omega, by omega, hr3l, by rw [List.length_set]; exact hol, HL, HR4, HO2, HB2, HBE2⟩
                    case measure => (simp [intOf]) <;> omega
end Go.Proofs.Ytfinbmnjfnajiaa.Td
end
section
set_option linter.unusedVariables false
set_option linter.unusedSimpArgs false
namespace Go.Proofs.Ytfinbmnjfnajiaa.Tf
open Go.RowKit Go.Proofs.YtfinbmnjfnajiaaW.PrintWords Go.Proofs.Ytfinbmnjfnajiaa.PW Go.Proofs.Ytfinbmnjfnajiaa.Pc Go.Proofs.Ytfinbmnjfnajiaa.Ma Go.Proofs.Ytfinbmnjfnajiaa.Mb Go.Proofs.Ytfinbmnjfnajiaa.Mc Go.Proofs.Ytfinbmnjfnajiaa.Md Go.Proofs.Ytfinbmnjfnajiaa.Me Go.Proofs.Ytfinbmnjfnajiaa.Mf Go.Proofs.Ytfinbmnjfnajiaa.Dy Go.Proofs.Ytfinbmnjfnajiaa.Ta Go.Proofs.Ytfinbmnjfnajiaa.Tb Go.Proofs.Ytfinbmnjfnajiaa.Tc Dg Go.Proofs.Ytfinbmnjfnajiaa.Dv Go.Proofs.Ytfinbmnjfnajiaa.Dw Go.Proofs.Ytfinbmnjfnajiaa.Dx Go.Proofs.Ytfinbmnjfnajiaa.Du
theorem divH {w : World} {A B : Option Addr} {c d a b : Nat} (ha : Mg w A c (D a)) (hb : Mg w B d (D b)) (h1 : bl a ≤ 268435456) (h2 : bl b ≤ 268435456) (h0 : b ≠ 0) :
    Calls Try.prog 71 #[.slice A (D a).length c, .slice B (D b).length d] w (GivesTwo w (a / b) (a % b)) := by
  rcases Nat.lt_or_ge a b with h | h
  · exact divSmall ha hb h1 h2 h
  · rcases Nat.lt_or_ge b 4294967296 with h3 | h3
    · exact divOne ha hb h1 h0 h3 h
    · refine Td.divLong ha hb h1 ?_ h
      have : b < 4294967296 ^ (D b).length := lt_of_dg_length _
      rcases Nat.lt_or_ge (D b).length 2 with h4 | h4
      · exfalso
        rcases (show (D b).length = 0 ∨ (D b).length = 1 by omega) with h5 | h5
        · rw [h5] at this; omega
        · rw [h5] at this; omega
      · exact h4
theorem tdiv_sign (x y : Int) : (if (decide (x < 0) != decide (y < 0)) = true then -((x.natAbs / y.natAbs : Nat) : Int) else ((x.natAbs / y.natAbs : Nat) : Int)) = x.tdiv y := by
  have key : ∀ m n : Nat, ((m / n : Nat) : Int) = (m : Int).tdiv n := fun m n => rfl
  rw [key]
  by_cases hx : x < 0 <;> by_cases hy : y < 0
  · rw [show (x.natAbs : Int) = -x by omega, show (y.natAbs : Int) = -y by omega]; simp [hx, hy, Int.neg_tdiv, Int.tdiv_neg]
  · rw [show (x.natAbs : Int) = -x by omega, show (y.natAbs : Int) = y by omega]; simp [hx, hy, Int.neg_tdiv]
  · rw [show (x.natAbs : Int) = x by omega, show (y.natAbs : Int) = -y by omega]; simp [hx, hy, Int.tdiv_neg]
  · rw [show (x.natAbs : Int) = x by omega, show (y.natAbs : Int) = y by omega]; simp [hx, hy]
theorem tmod_sign (x y : Int) : (if decide (x < 0) = true then -((x.natAbs % y.natAbs : Nat) : Int) else ((x.natAbs % y.natAbs : Nat) : Int)) = x.tmod y := by
  have key : ∀ m n : Nat, ((m % n : Nat) : Int) = (m : Int).tmod n := fun m n => rfl
  rw [key]
  by_cases hx : x < 0 <;> by_cases hy : y < 0
  · rw [show (x.natAbs : Int) = -x by omega, show (y.natAbs : Int) = -y by omega]; simp [hx, Int.neg_tmod, Int.tmod_neg]
  · rw [show (x.natAbs : Int) = -x by omega, show (y.natAbs : Int) = y by omega]; simp [hx, Int.neg_tmod]
  · rw [show (x.natAbs : Int) = x by omega, show (y.natAbs : Int) = -y by omega]; simp [hx, Int.tmod_neg]
  · rw [show (x.natAbs : Int) = x by omega, show (y.natAbs : Int) = y by omega]; simp [hx]
def Two (w : World) (p r : Nat) (zq zr : Int) (e : Ending) (w' : World) : Prop :=
  e = .returned (.tuple #[.pointer (some ⟨p, 0, none⟩), .pointer (some ⟨r, 0, none⟩)]) ∧ Z w' p zq ∧ Z w' r zr ∧ ∃ w1, w.grownBy w1 (some r) ∧ w1.grownBy w' (some p)
set_option maxHeartbeats 3200000 in
set_option maxRecDepth 100000 in
theorem quoRem {w : World} {p q s r : Nat} {x y : Int} (hp : Blk w p) (hr : Blk w r) (hx : Z w q x) (hy : Z w s y) (h1 : bl x.natAbs ≤ 268435456) (h2 : bl y.natAbs ≤ 268435456) (h0 : y ≠ 0) (hpr : p ≠ r) :
    Calls Try.prog 36 #[.pointer (some ⟨p, 0, none⟩), .pointer (some ⟨q, 0, none⟩), .pointer (some ⟨s, 0, none⟩), .pointer (some ⟨r, 0, none⟩)] w (Two w p r (x.tdiv y) (x.tmod y)) := by
  obtain ⟨A, c, k0, k1, hm, hq⟩ := Z.open hx
  obtain ⟨B, d, j0, j1, hn, hs⟩ := Z.open hy
  have hL : ∀ (W : World), Below w.heap.size w W → Calls Try.prog 71 #[.slice A (D x.natAbs).length c, .slice B (D y.natAbs).length d] W (GivesTwo w (x.natAbs / y.natAbs) (x.natAbs % y.natAbs)) := fun W hb =>
    (divH (hm.below hb) (hn.below hb) (by omega) (by omega) (by omega)).mono fun e w' h => by
      obtain ⟨A1, c1, B1, d1, he, g1, g2, g3⟩ := h
      exact ⟨A1, c1, B1, d1, he, g1, g2, below_then hb g3⟩
  have hbm : bl (x.natAbs % y.natAbs) ≤ bl x.natAbs := bl_mono (Nat.mod_le _ _)
  have hbd : bl (x.natAbs / y.natAbs) ≤ bl x.natAbs := bl_mono (Nat.div_le_self _ _)
  have hP1 := fun (w1 : World) (A' : Option Addr) (c' : Nat) (hb : Below w.heap.size w w1) (hm : Mg w1 A' c' (D (x.natAbs % y.natAbs))) => put_of (w := w1) (neg := decide (x < 0)) (hr.below hb) (Below.refl _ _) hm (by omega)
  have hP2 := fun (w1 w2 : World) (A' : Option Addr) (c' : Nat) (hb : Below w.heap.size w w1) (hg : w1.grownBy w2 (some r)) (hm : Mg w1 A' c' (D (x.natAbs / y.natAbs))) => put_of (w := w2) (neg := decide (x < 0) != decide (y < 0)) ((hp.below hb).grown hg hpr) (Below.refl _ _) (hm.grown hg (hr.below hb)) (by omega)
  rw [tmod_sign] at hP1
  rw [tdiv_sign] at hP2
  have hK : ∀ w1, Below w.heap.size w w1 → (w1.cell? ⟨q, 0, none⟩ = some (.bool (decide (x < 0))) ∧ w1.cell? ⟨s, 0, none⟩ = some (.bool (decide (y < 0)))) := fun w1 hb => ⟨(hb.cell (p := ⟨q, 0, none⟩) hq).trans k0, (hb.cell (p := ⟨s, 0, none⟩) hs).trans j0⟩
  have hE : ∀ (w1 w2 w3 : World), Below w.heap.size w w1 → w1.grownBy w2 (some r) → Z w2 r (x.tmod y) → w2.grownBy w3 (some p) → Z w3 p (x.tdiv y) → Two w p r (x.tdiv y) (x.tmod y) (.returned (.tuple #[.pointer (some ⟨p, 0, none⟩), .pointer (some ⟨r, 0, none⟩)])) w3 := fun w1 w2 w3 hb g1 z1 g2 z2 =>
    ⟨rfl, z2, z1.grown g2 ((hp.below hb).grown g1 hpr) (fun e => hpr e.symm), w2, grown_trans (grown_below hb _) g1, g2⟩
  have HL := Lib.hid hL
  have HP1 := Lib.hid hP1
  have HP2 := Lib.hid hP2
  have HK := Lib.hid hK
  have HE := Lib.hid hE
  clear hL hP1 hP2 hK hE hbm hbd h1 h2 hm hn hp hr hx hy hpr h0
  generalize x.tdiv y = zq at *
  generalize x.tmod y = zr at *
  generalize hb1 : decide (x < 0) = b1 at *
  generalize hb2 : decide (y < 0) = b2 at *
  clear hb1 hb2
  generalize x.natAbs / y.natAbs = q0 at *
  generalize x.natAbs % y.natAbs = r0 at *
  generalize (D x.natAbs).length = la at *
  generalize (D y.natAbs).length = lb at *
  go_enter Try.func36, Try.ntmps36
  go_wp2
  go_region_with (go_at_call 71; refine (HL.out _ (by first | exact Below.refl _ _ | exact (Below.refl _ _).drew)).mono ?_; rintro e w1 ⟨A1, c1, B1, d1, rfl, hmq, hmr, hb⟩; have HMQ := Lib.hid hmq; have HMR := Lib.hid hmr; have HB := Lib.hid hb; obtain ⟨a0, a1⟩ := HK.out w1 hb; clear hmq hmr hb)
  all_goals go_wp2_with fail
  all_goals go_region
  all_goals go_wp2_with fail
  all_goals refine (HP1.out w1.drew B1 d1 HB.out.drew (HMR.out.below (Below.refl _ _).drew)).mono ?_
  all_goals rintro e w2 ⟨rfl, hz2, hg2⟩
  all_goals have HP3 := Lib.hid (HP2.out w1.drew w2 A1 c1 HB.out.drew hg2 (HMQ.out.below (Below.refl _ _).drew))
  all_goals have HZ2 := Lib.hid hz2
  all_goals have HG2 := Lib.hid hg2
  all_goals clear hz2 hg2
  all_goals go_wp2_with fail
  all_goals refine HP3.out.mono ?_
  all_goals rintro e w3 ⟨rfl, hz3, hg3⟩
  all_goals have HE3 := Lib.hid (HE.out w1.drew w2 w3 HB.out.drew HG2.out HZ2.out hg3 hz3)
  all_goals clear hz3 hg3
  all_goals go_wp2
  all_goals go_ret2
  all_goals exact HE3.out
end Go.Proofs.Ytfinbmnjfnajiaa.Tf
end
section
set_option linter.unusedVariables false
set_option linter.unusedSimpArgs false
namespace Go.Proofs.Ytfinbmnjfnajiaa.Tg
open Go.RowKit Go.Proofs.YtfinbmnjfnajiaaW.PrintWords Go.Proofs.Ytfinbmnjfnajiaa.PW Go.Proofs.Ytfinbmnjfnajiaa.Pc Go.Proofs.Ytfinbmnjfnajiaa.Ma Go.Proofs.Ytfinbmnjfnajiaa.Mb Go.Proofs.Ytfinbmnjfnajiaa.Mc Go.Proofs.Ytfinbmnjfnajiaa.Md Go.Proofs.Ytfinbmnjfnajiaa.Me Go.Proofs.Ytfinbmnjfnajiaa.Mf Go.Proofs.Ytfinbmnjfnajiaa.Mi Go.Proofs.Ytfinbmnjfnajiaa.Mj Go.Proofs.Ytfinbmnjfnajiaa.Mk Go.Proofs.Ytfinbmnjfnajiaa.Tf Dg Go.Proofs.Ytfinbmnjfnajiaa.Dz
set_option maxHeartbeats 1600000 in
set_option maxRecDepth 100000 in
theorem quo {w : World} {p q s : Nat} {x y : Int} (hp : Blk w p) (hx : Z w q x) (hy : Z w s y) (h1 : bl x.natAbs ≤ 268435456) (h2 : bl y.natAbs ≤ 268435456) (h0 : y ≠ 0) :
    Calls Try.prog 86 #[.pointer (some ⟨p, 0, none⟩), .pointer (some ⟨q, 0, none⟩), .pointer (some ⟨s, 0, none⟩)] w (Puts w p (x.tdiv y)) := by
  have hlt := hp.lt
  have hQ := quoRem (hp.below (below_alloc w (.cells #[.bool false, .slice none 0 0] 63))) (Z.new w).blk (hx.below (below_alloc w _)) (hy.below (below_alloc w _)) h1 h2 h0 (by omega)
  have hE : ∀ w', Z w' p (x.tdiv y) → (∃ w1, (w.alloc (.cells #[.bool false, .slice none 0 0] 63)).grownBy w1 (some w.heap.size) ∧ w1.grownBy w' (some p)) → Puts w p (x.tdiv y) (.returned (.pointer (some ⟨p, 0, none⟩))) w' := by
    rintro w' hz ⟨w1, g1, g2⟩
    exact ⟨rfl, hz, grown_trans (grown_below (below_grown (below_alloc w _) g1 (Nat.le_refl _)) _) g2⟩
  have HQ := Lib.hid hQ
  have HE := Lib.hid hE
  clear hQ hE hp hx hy h1 h2 h0 hlt
  go_enter Try.func86, Try.ntmps86
  go_wp2_with fail
  refine HQ.out.mono ?_
  rintro e w1 ⟨rfl, hz, -, hg⟩
  have HE1 := Lib.hid (HE.out w1 hz hg)
  clear hz hg
  go_wp2
  go_ret
  exact HE1.out
theorem tdiv_two (n : Nat) : Int.tdiv ((n : Int) + 1) 2 = (((n + 1) / 2 : Nat) : Int) := by
  have : ((n : Int) + 1) = ((n + 1 : Nat) : Int) := by omega
  rw [this]; rfl
set_option maxHeartbeats 3200000 in
set_option maxRecDepth 100000 in
theorem sqrt {w : World} {p q x : Nat} (hp : Blk w p) (hx : Z w q (x : Int)) (h1 : bl x ≤ 134217728) :
    Calls Try.prog 45 #[.pointer (some ⟨p, 0, none⟩), .pointer (some ⟨q, 0, none⟩)] w (Puts w p (rt x : Int)) := by
  by_cases h0 : x = 0
  · subst h0
    have hS := Me.sign hx
    rw [show Pm.sgn ((0 : Nat) : Int) = 0 by decide] at hS
    have hP := put (neg := false) hp (Mg.nil w) (fun d hd => by simp at hd) (by simp)
    rw [if_neg (by decide), val_nil] at hP
    have HS := Lib.hid hS
    have HP := Lib.hid hP
    clear hS hP hp hx
    go_enter Try.func45, Try.ntmps45
    go_wp2_with (first | (go_at_call 77; refine HS.out.mono ?_; rintro e w1 ⟨rfl, rfl⟩; clear HS) | (go_at_call 72; refine HP.out.mono ?_; rintro e w2 ⟨rfl, hz2, hg2⟩; have HE := Lib.hid (show Puts w p ((rt 0 : Nat) : Int) (.returned (.pointer (some ⟨p, 0, none⟩))) w2 from ⟨rfl, hz2, hg2⟩); clear hz2 hg2))
    go_ret
    exact HE.out
  · have hS := Me.sign hx
    rw [show Pm.sgn (x : Int) = 1 by unfold Pm.sgn; rw [if_neg (by omega), if_neg (by omega)]] at hS
    have e2 := tdiv_two (bl x)
    have hfirst : ∀ s, s * s ≤ x → s ≤ 2 ^ ((bl x + 1) / 2) := fun s hs => newton_first hs
    have hnb : (bl x + 1) / 2 ≤ 134217728 := by omega
    have hbx : bl x + 1 ≤ 134217729 := by omega
    have hB := fun (W : World) (hb : Below w.heap.size w W) => Me.bitLen (hx.below hb) (by rw [Int.natAbs_natCast]; omega)
    simp only [Int.natAbs_natCast] at hB
    have hX : ∀ W, Below w.heap.size w W → Z W q (x : Int) := fun W hb => hx.below hb
    have hSet := fun (W : World) (g r : Nat) (hb : Below w.heap.size w W) (hz : Z W g (r : Int)) (hr : bl r ≤ 134217730) => (Me.set (hp.below hb) hz (by rw [Int.natAbs_natCast]; omega)).mono fun e w' h => Mj.Puts.of hb h
    generalize hnn : (bl x + 1) / 2 = nb at *
    have hbl2 : ∀ k : Nat, k ≤ 2 ^ nb → bl k ≤ 134217729 := fun k hk => by
      have a1 := bl_mono hk
      have a2 := bl_shift_le 1 nb
      rw [Nat.one_mul, show bl 1 = 1 from rfl] at a2
      omega
    have hdone : ∀ k : Nat, 0 < k → (∀ s, s * s ≤ x → s ≤ k) → k ≤ (x / k + k) / 2 → k = rt x := fun k h1 h2 h3 => newton_done (newton_stop h1 h3) h2
    have hnext : ∀ k : Nat, 0 < k → ∀ s, s * s ≤ x → s ≤ (x / k + k) / 2 := fun k h1 s hs => newton_ge h1 hs
    have hone : 1 * 1 ≤ x := by omega
    have HXB := Lib.hid (show ∀ y, y = x → bl y ≤ 134217728 from fun y hy => by rw [hy]; exact h1)
    have HXD := Lib.hid (show ∀ k, bl (x / k) ≤ 134217728 from fun k => Nat.le_trans (bl_mono (Nat.div_le_self x k)) h1)
    have HS := Lib.hid hS
    have HB := Lib.hid hB
    have HX := Lib.hid hX
    have HSET := Lib.hid hSet
    have HFIRST := Lib.hid hfirst
    have HBL := Lib.hid hbl2
    have HDONE := Lib.hid hdone
    have HNEXT := Lib.hid hnext
    have HONE := Lib.hid hone
    clear hS hB hX hSet hfirst hbl2 hdone hnext hone hp hx hnn
    generalize bl x = bx at *
    go_enter Try.func45, Try.ntmps45
    go_wp2_with fail
    refine HS.out.mono ?_
    rintro e w0 ⟨rfl, rfl⟩
    clear HS
    go_wp2_with fail
    refine (newInt (w := w.alloc (.cells #[.bool false, .slice none 0 0] 63)) (n := 1) (by decide) (by decide)).mono ?_
    rintro e w1 ⟨g1, rfl, hz1, hg1, hb1⟩
    have hbw : Below w.heap.size w w1 := (below_alloc w _).trans (hb1.mono (by simp))
    have hblk0 : Blk w1 w.heap.size := (Z.new w).blk.below hb1
    have hlt1 : w.heap.size < g1 := by simp at hg1; omega
    have HBT := Lib.hid (HB.out w1 hbw)
    have HL := Lib.hid (show ∀ n2 : Nat, Calls Try.prog 62 #[.pointer (some ⟨w.heap.size, 0, none⟩), .pointer (some ⟨g1, 0, none⟩), .int .u64 nb] (w1.drewN n2) (fun e w' => e = .returned (.pointer (some ⟨w.heap.size, 0, none⟩)) ∧ Z w' w.heap.size ((2 ^ nb : Nat) : Int) ∧ Below w.heap.size w w') from fun n2 =>
      (lsh (n := nb) (hblk0.below (below_drawn n2)) (hz1.below (below_drawn n2)) (by decide) (by omega)).mono fun e w' h => by
        obtain ⟨h1, h2, h3⟩ := h
        refine ⟨h1, ?_, below_grown (below_then hbw (below_drawn n2)) h3 (Nat.le_refl _)⟩
        rw [Int.one_mul] at h2
        rwa [Int.natCast_pow])
    clear hz1 hg1 hb1 hbw hblk0
    go_wp2_with fail
    refine HBT.out.mono ?_
    rintro e w2 ⟨rfl, n2, rfl⟩
    go_wp2_with fail
    refine (HL.out n2).mono ?_
    rintro e w3 ⟨rfl, hz3, hb3⟩
    have HZ3 := Lib.hid hz3
    have HB3 := Lib.hid hb3
    clear hz3 hb3 HBT HL
    go_wp2_with fail
    go_loopg [5] (2 ^ nb) (fun k v wr => ∃ g : Nat, v = .pointer (some ⟨g, 0, none⟩) ∧ Hid (Z wr g (k : Int)) ∧ Hid (Below w.heap.size w wr) ∧ Hid (0 < k ∧ k ≤ 2 ^ nb ∧ ∀ s, s * s ≤ x → s ≤ k))
    case atStart => exact ⟨_, rfl, HZ3, HB3, Lib.hid ⟨Nat.two_pow_pos _, Nat.le_refl _, HFIRST.out⟩⟩
    case round =>
      clear HZ3 HB3
      obtain ⟨g, rfl, HZ, HBE, HK⟩ := hrel
      obtain ⟨hk0, hk1, hk2⟩ := HK.out
      have hbk := HBL.out gk hk1
      have hnk : ((x : Int)).tdiv (gk : Int) = ((x / gk : Nat) : Int) := rfl
      have hglt := HZ.out.lt
      have hzA := HZ.out.below (below_alloc wr (.cells #[.bool false, .slice none 0 0] 63))
      have hxA := (HX.out wr HBE.out).below (below_alloc wr (.cells #[.bool false, .slice none 0 0] 63))
      have hQ := quo (Z.new wr).blk hxA hzA (by rw [Int.natAbs_natCast]; have := HXB.out x rfl; omega) (by rw [Int.natAbs_natCast]; omega) (by omega)
      rw [hnk] at hQ
      have hbxk := HXD.out gk
      have hbsum := bl_add_le (x / gk) gk
      have HD1 := Lib.hid (HDONE.out gk hk0 hk2)
      have HN1 := Lib.hid (HNEXT.out gk hk0)
      have hnpos := HNEXT.out gk hk0 1 HONE.out
      have hsz := HBE.out.size
      have HQ := Lib.hid hQ
      have HZA := Lib.hid hzA
      have HBE2 := Lib.hid (below_then HBE.out (below_alloc wr (.cells #[.bool false, .slice none 0 0] 63)))
      clear hQ hzA hxA hnk HZ HBE hk2
      generalize x / gk = qk at *
      go_wp2_with fail
      refine HQ.out.mono ?_
      rintro e w1 ⟨rfl, hz1, hg1⟩
      have hzg1 := HZA.out.grown hg1 (Z.new wr).blk (by omega)
      have hbe1 := below_grown HBE2.out hg1 hsz
      have hA := add hz1.blk hz1 hzg1 (by rw [Int.natAbs_natCast]; omega) (by rw [Int.natAbs_natCast]; omega)
      rw [← Int.natCast_add] at hA
      have HA := Lib.hid hA
      have HB1 := Lib.hid hz1.blk
      have HZG1 := Lib.hid hzg1
      have HBE1 := Lib.hid hbe1
      clear hz1 hg1 hzg1 hbe1 hA HQ HZA HBE2
      go_wp2_with fail
      refine HA.out.mono ?_
      rintro e w2 ⟨rfl, hz2, hg2⟩
      have hzg2 := HZG1.out.grown hg2 HB1.out (by omega)
      have hbe2 := below_grown HBE1.out hg2 hsz
      have hR := rsh (n := 1) hz2.blk hz2 (by rw [Int.natAbs_natCast]; omega) (by decide)
      rw [show (((qk + gk : Nat) : Int) / 2 ^ 1) = (((qk + gk) / 2 : Nat) : Int) by omega] at hR
      have HR := Lib.hid hR
      have HB2 := Lib.hid hz2.blk
      have HZG2 := Lib.hid hzg2
      have HBE2 := Lib.hid hbe2
      have hbn : bl ((qk + gk) / 2) ≤ bl (qk + gk) := bl_mono (Nat.div_le_self _ _)
      clear hz2 hg2 hzg2 hbe2 hR HA HB1 HZG1 HBE1
      generalize (qk + gk) / 2 = nx at *
      go_wp2_with fail
      refine HR.out.mono ?_
      rintro e w3 ⟨rfl, hz3, hg3⟩
      have hzg3 := HZG2.out.grown hg3 HB2.out (by omega)
      have hbe3 := below_grown HBE2.out hg3 hsz
      have hC := Mi.cmp hz3 hzg3 (by rw [Int.natAbs_natCast]; omega) (by rw [Int.natAbs_natCast]; omega)
      have HC := Lib.hid hC
      have HZG3 := Lib.hid hzg3
      have HZ3 := Lib.hid hz3
      have HBE3 := Lib.hid hbe3
      clear hz3 hg3 hzg3 hbe3 hC HR HB2 HZG2 HBE2
      by_cases hge : gk ≤ nx
      · have hsg : 0 ≤ Pm.sgn ((nx : Int) - (gk : Int)) := by unfold Pm.sgn; split <;> (try split) <;> omega
        have hrt := HD1.out hge
        have HRT := Lib.hid hrt
        have hbg := hbk
        clear hrt
        generalize Pm.sgn ((nx : Int) - (gk : Int)) = sg at *
        go_wp2_with fail
        refine HC.out.mono ?_
        rintro e w4 ⟨rfl, n4, rfl⟩
        have HST := Lib.hid (HSET.out (w3.drewN n4) g gk (below_then HBE3.out (below_drawn n4)) (HZG3.out.below (below_drawn n4)) (by omega))
        go_wp2_with fail
        refine HST.out.mono ?_
        rintro e w5 ⟨rfl, hz5, hg5⟩
        have HE := Lib.hid (show Puts w p ((rt x : Nat) : Int) (.returned (.pointer (some ⟨p, 0, none⟩))) w5 from ⟨rfl, by rw [← HRT.out]; exact hz5, hg5⟩)
        clear hz5 hg5
        go_wp2
        go_ret
        exact HE.out
      · have hsg : Pm.sgn ((nx : Int) - (gk : Int)) = -1 := by unfold Pm.sgn; rw [if_pos (by omega)]
        rw [hsg] at HC
        clear hsg
        go_wp2_with fail
        refine HC.out.mono ?_
        rintro e w4 ⟨rfl, n4, rfl⟩
        go_wp2
        go_roundg nx
        case measure => omega
        case rel => exact ⟨_, rfl, Lib.hid (HZ3.out.below (below_drawn n4)), Lib.hid (below_then HBE3.out (below_drawn n4)), Lib.hid ⟨by omega, by omega, HN1.out⟩⟩
end Go.Proofs.Ytfinbmnjfnajiaa.Tg
end
section
set_option linter.unusedVariables false
set_option linter.unusedSimpArgs false
namespace Go.Proofs.Ytfinbmnjfnajiaa.PW
open Go.RowKit Go.Proofs.YtfinbmnjfnajiaaW.PrintWords Go.Proofs.Ytfinbmnjfnajiaa.Pc Go.Proofs.Ytfinbmnjfnajiaa.Pb Go.Proofs.Ytfinbmnjfnajiaa.Pw Go.Proofs.Ytfinbmnjfnajiaa.Ma Go.Proofs.Ytfinbmnjfnajiaa.Mb Go.Proofs.Ytfinbmnjfnajiaa.Mc Go.Proofs.Ytfinbmnjfnajiaa.Md Go.Proofs.Ytfinbmnjfnajiaa.Me Go.Proofs.Ytfinbmnjfnajiaa.Mg Go.Proofs.Ytfinbmnjfnajiaa.Mh Go.Proofs.Ytfinbmnjfnajiaa.Mk Go.Proofs.Ytfinbmnjfnajiaa.Mn Go.Proofs.Ytfinbmnjfnajiaa.Mq Go.Proofs.Ytfinbmnjfnajiaa.Mr Go.Proofs.Ytfinbmnjfnajiaa.Mu Dg Go.Proofs.Ytfinbmnjfnajiaa.Dz
def impl_RootOfWhole.f (a0_0 : Int) (l0_1 : List Int) : Option (Int × List Int × Int) := some (if isW a0_0 l0_1 = true then (if a0_0 < 0 then (0, [], 5) else fit ((rt (wv a0_0 l0_1).natAbs : Nat) : Int)) else (0, [], 1))
set_option maxHeartbeats 1600000 in
theorem impl_RootOfWhole.calls (a0_0 : Int) (A0_1 : Option Addr) (c0_1 : Nat) (l0_1 : List Int) (r1 : Int) (r2 : List Int) (r3 : Int) (w : World) (hr0_1 : Kd.C (Kd.int .i64) w A0_1 l0_1.length l0_1) (hc0_1 : l0_1.length ≤ c0_1) (h : impl_RootOfWhole.f a0_0 l0_1 = some (r1, r2, r3)) :
    Calls Try.prog 17 #[.agg #[.int .i64 a0_0, .slice A0_1 l0_1.length c0_1]] w fun e w' => ∃ v1_ : Value, e = .returned (.tuple #[.agg #[.int .i64 r1, v1_], .int .i64 r3]) ∧ Kd.R (Kd.int .i64) 2 w' w.heap.size (fun _ => True) v1_ r2 ∧ Below w.heap.size w w' := by
  unfold impl_RootOfWhole.f at h
  have hI := fun (W : World) (hb : Below w.heap.size w W) => cIs (s := a0_0) (C_at hr0_1 hb) hc0_1 hr0_1.2.1
  have HBW := Lib.hid (boxAndResult w a0_0 A0_1 l0_1.length c0_1)
  cases hw : isW a0_0 l0_1 with
  | false =>
    rw [hw] at h hI
    rw [if_neg (by simp)] at h
    obtain ⟨rfl, h2⟩ := Prod.mk.inj (Option.some.inj h)
    obtain ⟨rfl, rfl⟩ := Prod.mk.inj h2
    have HI := Lib.hid hI
    clear h h2 hw hr0_1 hc0_1 hI
    go_enter Try.func17, Try.ntmps17
    go_wp2_with fail
    refine (HI.out _ (HBW.out _ (Below.refl _ _)).1).mono ?_
    rintro e w1 ⟨rfl, hb⟩
    obtain ⟨h1', c0, c1, ⟨hs, i0, i1⟩, hbx⟩ := HBW.out _ (hb.mono (by simp))
    have HB1 := Lib.hid h1'
    have HBX := Lib.hid hbx
    obtain ⟨e0, e1, f0, f1⟩ := cellsOf hbx
    clear hb h1' hbx
    go_wp2
    have hst := storedW (s := 0) (u := .slice none 0 0) HBX.out HB1.out (by omega) (Kd.R_nil _ _ _ _ _)
    exact bodyPost_ret (results_ct rfl _ _ (w.heap.size + 1) 26 #[.int .i64 0, .slice none 0 0] (0, 0) _ rfl hst.1 Try.underlying26 rfl sizeW) rfl ⟨_, rfl, hst.2.1, hst.2.2⟩
  | true =>
    rw [hw] at h hI
    rw [if_pos rfl] at h
    have HI := Lib.hid hI
    by_cases hk : a0_0 < 0
    · rw [if_pos hk] at h
      obtain ⟨rfl, h2⟩ := Prod.mk.inj (Option.some.inj h)
      obtain ⟨rfl, rfl⟩ := Prod.mk.inj h2
      clear h h2 hw hr0_1 hc0_1 hI
      go_enter Try.func17, Try.ntmps17
      go_wp2_with fail
      refine (HI.out _ (HBW.out _ (Below.refl _ _)).1).mono ?_
      rintro e w1 ⟨rfl, hb⟩
      obtain ⟨h1', c0, c1, ⟨hs, i0, i1⟩, hbx⟩ := HBW.out _ (hb.mono (by simp))
      have HB1 := Lib.hid h1'
      have HBX := Lib.hid hbx
      obtain ⟨e0, e1, f0, f1⟩ := cellsOf hbx
      clear hb h1' hbx
      go_wp2
      have hst := storedW (s := 0) (u := .slice none 0 0) HBX.out HB1.out (by omega) (Kd.R_nil _ _ _ _ _)
      exact bodyPost_ret (results_ct rfl _ _ (w.heap.size + 1) 26 #[.int .i64 0, .slice none 0 0] (0, 0) _ rfl hst.1 Try.underlying26 rfl sizeW) rfl ⟨_, rfl, hst.2.1, hst.2.2⟩
    · rw [if_neg hk] at h
      have h1 := Option.some.inj h
      have b0 := (isW_eq hw).2.2
      have hv0 : wv a0_0 l0_1 = (((wv a0_0 l0_1).natAbs : Nat) : Int) := by
        have : 0 ≤ wv a0_0 l0_1 := by
          unfold wv
          rw [if_neg hk]
          exact val_nonneg (isW_spec hw).1
        omega
      have hT := fun (W : World) (hb : Below w.heap.size w W) => cBig (c := c0_1) (C_at hr0_1 hb) hw
      rw [hv0] at hT
      generalize (wv a0_0 l0_1).natAbs = x at *
      have hrb := rt_bl x
      have hS := fun (W : World) (p g : Nat) (hp : Blk W p) (hz : Z W g ((x : Nat) : Int)) => Tg.sqrt hp hz (by omega)
      have hW := fun (W : World) (p : Nat) (hz : Z W p ((rt x : Nat) : Int)) => Mr.whole hz (by rw [Int.natAbs_natCast]; omega)
      rw [h1] at hW
      have HT := Lib.hid hT
      have HS := Lib.hid hS
      have HW := Lib.hid hW
      clear hT hS hW h h1 hw hr0_1 hc0_1 hI b0 hv0 hrb
      go_enter Try.func17, Try.ntmps17
      go_wp2_with fail
      refine (HI.out _ (HBW.out _ (Below.refl _ _)).1).mono ?_
      rintro e w1 ⟨rfl, hb⟩
      obtain ⟨h1', c0, c1, ⟨hs, i0, i1⟩, hbx⟩ := HBW.out _ (hb.mono (by simp))
      have HB1 := Lib.hid h1'
      have HB2 := Lib.hid (hb.mono (B' := w.heap.size + 2) (by simp))
      clear hb h1' hbx
      go_wp2_with fail
      refine (HT.out (w1.alloc (.cells #[.bool false, .slice none 0 0] 63)) (HB1.out.trans ((below_alloc w1 _).mono (by omega)))).mono ?_
      rintro e w3 ⟨g, rfl, hz, hg, hb⟩
      have HSQ := Lib.hid (HS.out w3 w1.heap.size g ((Z.new w1).blk.below hb) hz)
      have HB3 := Lib.hid (below_then (below_alloc w1 _) hb)
      clear hz hg hb c0 c1 HT HB1 HS i0 i1
      go_wp2_with fail
      refine HSQ.out.mono ?_
      rintro e w4 ⟨rfl, hz4, hg4⟩
      have hb4 := below_grown HB3.out hg4 (Nat.le_refl _)
      have HB4 := Lib.hid (HB2.out.trans (hb4.mono hs))
      have HZ4 := Lib.hid hz4
      clear hz4 hg4 hb4 HSQ HB3 HB2
      go_wp2_with fail
      refine (HW.out _ _ HZ4.out).mono ?_
      rintro e w6 ⟨u, rfl, hR, hb⟩
      obtain ⟨A, c, rfl⟩ := Kd.R_slice hR
      have hs4 := (HBW.out _ HB4.out).2.2.2.1.1
      obtain ⟨h1', o0, o1, ⟨hs6, m0, m1⟩, hbx6⟩ := HBW.out _ (HB4.out.trans (hb.mono hs4))
      obtain ⟨e0, e1, f0, f1⟩ := cellsOf hbx6
      have HB6 := Lib.hid h1'
      have HBX := Lib.hid hbx6
      have HR := Lib.hid (Kd.R_lower (base' := w.heap.size) hR (by omega))
      clear hR hb h1' hbx6 HZ4 HW HB4 hs4
      go_wp2
      have hst := storedW (s := r1) (u := .slice A r2.length c) HBX.out HB6.out (by omega) HR.out
      exact bodyPost_ret (results_ct rfl _ _ (w.heap.size + 1) 26 #[.int .i64 r1, .slice A r2.length c] (0, 0) _ rfl hst.1 Try.underlying26 rfl sizeW) rfl ⟨_, rfl, hst.2.1, hst.2.2⟩
end Go.Proofs.Ytfinbmnjfnajiaa.PW
end
section
set_option linter.unusedVariables false
set_option linter.unusedSimpArgs false
namespace Go.Proofs.Ytfinbmnjfnajiaa.Ha
open Go.RowKit Go.Proofs.YtfinbmnjfnajiaaW.PrintWords Go.Proofs.YtfinbmnjfnajiaaW.PrintLast Go.Proofs.YtfinbmnjfnajiaaW.PrintMore Go.Proofs.Ytfinbmnjfnajiaa.PW Go.Proofs.Ytfinbmnjfnajiaa.Ma Go.Proofs.Ytfinbmnjfnajiaa.Mh Go.Proofs.Ytfinbmnjfnajiaa.Mu Go.Proofs.Ytfinbmnjfnajiaa.Mn
theorem threeW (w : World) (s0 : Int) (A0 : Option Addr) (n0 c0 : Nat) (s1 : Int) (A1 : Option Addr) (n1 c1 : Nat) {W0 : World} (hW0 : W0 = ((w.alloc (.cells #[.int .i64 s0, .slice A0 n0 c0] 26)).alloc (.cells #[.int .i64 s1, .slice A1 n1 c1] 26)).alloc (.cells #[.int .i64 0, .slice none 0 0] 26)) :
    ∀ W, Below W0.heap.size W0 W → ((W.cell? ⟨w.heap.size, 0, none⟩ = some (.int .i64 s0) ∧ W.cell? ⟨w.heap.size, 1, none⟩ = some (.slice A0 n0 c0)) ∧ (W.cell? ⟨w.heap.size + 1, 0, none⟩ = some (.int .i64 s1) ∧ W.cell? ⟨w.heap.size + 1, 1, none⟩ = some (.slice A1 n1 c1))) ∧
      (W.cell? ⟨w.heap.size + 1 + 1, 0, none⟩ = some (.int .i64 0) ∧ W.cell? ⟨w.heap.size + 1 + 1, 1, none⟩ = some (.slice none 0 0) ∧ W.frozen? ⟨w.heap.size + 1 + 1, 0, none⟩ = false ∧ W.frozen? ⟨w.heap.size + 1 + 1, 1, none⟩ = false) ∧ (w.heap.size < W.heap.size ∧ w.heap.size + 1 < W.heap.size ∧ w.heap.size + 1 + 1 < W.heap.size) ∧ W.heap[w.heap.size + 1 + 1]? = some (.cells #[.int .i64 0, .slice none 0 0] 26 (0, 0)) ∧ Below w.heap.size w W := fun W hb => by
  have hs : W0.heap.size = w.heap.size + 3 := by rw [hW0, alloc_size, alloc_size, alloc_size]
  obtain ⟨h1, x0, x1, y0, y1, ⟨_, i0, i1, i2⟩, hx⟩ := threeBoxes w s0 A0 n0 c0 s1 A1 n1 c1 W (by rw [← hs, ← hW0]; exact hb)
  obtain ⟨e0, e1, f0, f1⟩ := cellsOf hx
  exact ⟨⟨⟨x0, x1⟩, y0, y1⟩, ⟨e0, e1, f0, f1⟩, ⟨i0, i1, i2⟩, hx, h1⟩
set_option maxRecDepth 20000 in
set_option maxHeartbeats 1600000 in
theorem handAdd2 (k : Nat) (a0_0 : Int) (A0_1 : Option Addr) (c0_1 : Nat) (l0_1 : List Int) (a1_0 : Int) (A1_1 : Option Addr) (c1_1 : Nat) (l1_1 : List Int) (r1 : Int) (r2 : List Int) (w : World) (hr0_1 : Kd.C (Kd.int .i64) w A0_1 l0_1.length l0_1) (hc0_1 : l0_1.length ≤ c0_1) (hr1_1 : Kd.C (Kd.int .i64) w A1_1 l1_1.length l1_1) (hc1_1 : l1_1.length ≤ c1_1) (h : spec_l02Add.f k a0_0 l0_1 a1_0 l1_1 = some (r1, r2)) :
    Calls Try.prog 83 #[.agg #[.int .i64 a0_0, .slice A0_1 l0_1.length c0_1], .agg #[.int .i64 a1_0, .slice A1_1 l1_1.length c1_1]] w fun e w' => ∃ v1_ : Value, e = .returned (.agg #[.int .i64 r1, v1_]) ∧ Kd.R (Kd.int .i64) 2 w' w.heap.size (fun _ => True) v1_ r2 ∧ Below w.heap.size w w' := by
  unfold spec_l02Add.f at h
  obtain ⟨W0, hW0⟩ : ∃ W0, W0 = ((w.alloc (.cells #[.int .i64 a0_0, .slice A0_1 l0_1.length c0_1] 26)).alloc (.cells #[.int .i64 a1_0, .slice A1_1 l1_1.length c1_1] 26)).alloc (.cells #[.int .i64 0, .slice none 0 0] 26) := ⟨_, rfl⟩
  have stay0 := threeW w a0_0 A0_1 l0_1.length c0_1 a1_0 A1_1 l1_1.length c1_1 hW0
  have HCa := Lib.hid (fun (W : World) (hb : Below W0.heap.size W0 W) => C_at hr0_1 (stay0 W hb).2.2.2.2)
  have HCb := Lib.hid (fun (W : World) (hb : Below W0.heap.size W0 W) => C_at hr1_1 (stay0 W hb).2.2.2.2)
  have HLa := Lib.hid hc0_1
  have HLb := Lib.hid hc1_1
  have stay := Lib.hid stay0
  have HW := Lib.hid hW0
  clear hW0 stay0 hr0_1 hr1_1 hc0_1 hc1_1
  by_cases h0 : a0_0 = 0
  · rw [if_pos h0] at h
    obtain ⟨⟨q1, q2⟩, hm, hq⟩ := Option.bind_eq_some_iff.1 h
    obtain ⟨rfl, rfl⟩ := Prod.mk.inj (Option.some.inj hq)
    have HMK := Lib.hid (spec_l02Make.calls k a1_0 A1_1 c1_1 l1_1 _ _ W0 (HCb.out W0 (Below.refl _ _)) HLb.out hm)
    have HZ0 := Lib.hid (stay.out W0 (Below.refl _ _)).2.2.1.1
    subst h0
    clear h hq hm
    generalize q1 = r1 at *
    generalize q2 = r2 at *
    go_enter Try.func83, Try.ntmps83
    go_upto_region 1 with fail
    rw [← HW.out]
    clear HW
    obtain ⟨⟨⟨c0, c1⟩, d0, d1⟩, ⟨e0, e1, f0, f1⟩, ⟨z0, z1, z2⟩, hx, hbw⟩ := stay.out W0 (Below.refl _ _)
    clear hx hbw
    have n1a : w.heap.size ≠ w.heap.size + 1 + 1 := by omega
    have n1b := Ne.symm n1a
    go_wp2_with fail
    refine HMK.out.mono ?_
    rintro en w1 ⟨u, rfl, hR, hb⟩
    obtain ⟨A, c, rfl⟩ := Kd.R_slice hR
    clear c0 c1 d0 d1 e0 e1 f0 f1 z0 z1 z2
    obtain ⟨⟨⟨c0, c1⟩, d0, d1⟩, ⟨e0, e1, f0, f1⟩, ⟨z0, z1, z2⟩, hx, hbw⟩ := stay.out w1 hb
    have HX := Lib.hid hx
    have HB := Lib.hid hbw
    have HR := Lib.hid (Kd.R_lower (base' := w.heap.size) hR (by have := HZ0.out; omega))
    clear hR hb hx hbw
    go_wp2
    have hst := storedW (s := r1) (u := .slice A r2.length c) HX.out HB.out (by omega) HR.out
    exact bodyPost_ret (results_single rfl (.cell (w.heap.size + 1 + 1) 26 #[.int .i64 r1, .slice A r2.length c] (0, 0) _ rfl hst.1 Try.underlying26 rfl sizeW .nil)) rfl ⟨_, rfl, hst.2.1, hst.2.2⟩
  rw [if_neg h0] at h
  have h0b : (a0_0 == 0) = false := by simpa using h0
  by_cases h1 : a1_0 = 0
  · rw [if_pos h1] at h
    obtain ⟨⟨q1, q2⟩, hm, hq⟩ := Option.bind_eq_some_iff.1 h
    obtain ⟨rfl, rfl⟩ := Prod.mk.inj (Option.some.inj hq)
    have HMK := Lib.hid (spec_l02Make.calls k a0_0 A0_1 c0_1 l0_1 _ _ W0 (HCa.out W0 (Below.refl _ _)) HLa.out hm)
    have HZ0 := Lib.hid (stay.out W0 (Below.refl _ _)).2.2.1.1
    subst h1
    clear h hq hm
    generalize q1 = r1 at *
    generalize q2 = r2 at *
    go_enter Try.func83, Try.ntmps83
    go_upto_region 1 with fail
    rw [← HW.out]
    clear HW
    obtain ⟨⟨⟨c0, c1⟩, d0, d1⟩, ⟨e0, e1, f0, f1⟩, ⟨z0, z1, z2⟩, hx, hbw⟩ := stay.out W0 (Below.refl _ _)
    clear hx hbw
    have n1a : w.heap.size ≠ w.heap.size + 1 + 1 := by omega
    have n1b := Ne.symm n1a
    go_wp2_with fail
    refine HMK.out.mono ?_
    rintro en w1 ⟨u, rfl, hR, hb⟩
    obtain ⟨A, c, rfl⟩ := Kd.R_slice hR
    clear c0 c1 d0 d1 e0 e1 f0 f1 z0 z1 z2
    obtain ⟨⟨⟨c0, c1⟩, d0, d1⟩, ⟨e0, e1, f0, f1⟩, ⟨z0, z1, z2⟩, hx, hbw⟩ := stay.out w1 hb
    have HX := Lib.hid hx
    have HB := Lib.hid hbw
    have HR := Lib.hid (Kd.R_lower (base' := w.heap.size) hR (by have := HZ0.out; omega))
    clear hR hb hx hbw
    go_wp2
    have hst := storedW (s := r1) (u := .slice A r2.length c) HX.out HB.out (by omega) HR.out
    exact bodyPost_ret (results_single rfl (.cell (w.heap.size + 1 + 1) 26 #[.int .i64 r1, .slice A r2.length c] (0, 0) _ rfl hst.1 Try.underlying26 rfl sizeW .nil)) rfl ⟨_, rfl, hst.2.1, hst.2.2⟩
  rw [if_neg h1] at h
  have h1b : (a1_0 == 0) = false := by simpa using h1
  by_cases h2 : a0_0 = a1_0
  · rw [if_pos h2] at h
    obtain ⟨p, hp, h⟩ := Option.bind_eq_some_iff.1 h
    obtain ⟨⟨q1, q2⟩, hm, hq⟩ := Option.bind_eq_some_iff.1 h
    obtain ⟨rfl, rfl⟩ := Prod.mk.inj (Option.some.inj hq)
    have HOP := Lib.hid (fun (W : World) (hb : Below W0.heap.size W0 W) => spec_l02Plus.calls k A0_1 c0_1 l0_1 A1_1 c1_1 l1_1 p W (HCa.out W hb) HLa.out (HCb.out W hb) HLb.out hp)
    have HMK := Lib.hid (fun (W : World) (A : Option Addr) (c : Nat) (hA : (Kd.int .i64).C W A p.length p) (hc : p.length ≤ c) => spec_l02Make.calls k a0_0 A c p _ _ W hA hc hm)
    have HBc := Lib.hid (Below.refl W0.heap.size W0)
    have h2b : (a0_0 == a1_0) = true := by simpa using h2
    subst h2
    clear h hq hm hp
    generalize q1 = r1 at *
    generalize q2 = r2 at *
    go_enter Try.func83, Try.ntmps83
    go_upto_region 1 with fail
    rw [← HW.out]
    clear HW
    obtain ⟨⟨⟨c0, c1⟩, d0, d1⟩, ⟨e0, e1, f0, f1⟩, ⟨z0, z1, z2⟩, hx, hbw⟩ := stay.out W0 (Below.refl _ _)
    clear hx hbw
    have n1a : w.heap.size ≠ w.heap.size + 1 + 1 := by omega
    have n1b := Ne.symm n1a
    go_upto_region 6 with fail
    go_region_held3 (fun w' => (w'.cell? ⟨w.heap.size, 0, none⟩ = some (.int .i64 a0_0) ∧ w'.cell? ⟨w.heap.size, 1, none⟩ = some (.slice A0_1 l0_1.length c0_1)) ∧ w'.cell? ⟨w.heap.size + 1, 0, none⟩ = some (.int .i64 a0_0) ∧ w'.cell? ⟨w.heap.size + 1, 1, none⟩ = some (.slice A1_1 l1_1.length c1_1)) (go_keep)
      (first
        | (go_at_call 114; refine (HOP.out _ (by first | exact HBc.out | exact HBc.out.drew)).mono ?_; rintro en w2 ⟨u, rfl, hR, hb⟩; obtain ⟨A2, c2, rfl⟩ := Kd.R_slice hR; have hX := below_then (show Below W0.heap.size W0 _ by first | exact HBc.out | exact HBc.out.drew) hb; obtain ⟨⟨⟨c0, c1⟩, d0, d1⟩, ⟨e0, e1, f0, f1⟩, ⟨z0, z1, z2⟩, hx, hbw⟩ := stay.out w2 hX; have HX2 := Lib.hid hX; have HRR := Lib.hid (Kd.R_reads' hR); clear hR hb hX hx hbw)
        | (go_at_call 70; refine (HMK.out _ _ _ HRR.out.2.2 HRR.out.2.1).mono ?_; rintro en w3 ⟨u3, rfl, hR, hb⟩; obtain ⟨A, c, rfl⟩ := Kd.R_slice hR; have hX := below_then HX2.out hb; have HR := Lib.hid (Kd.R_lower (base' := w.heap.size) hR (by omega)); obtain ⟨⟨⟨c0, c1⟩, d0, d1⟩, ⟨e0, e1, f0, f1⟩, ⟨z0, z1, z2⟩, hx, hbw⟩ := stay.out w3 hX; have HX := Lib.hid hx; have HB := Lib.hid hbw; clear hR hb hX hx hbw))
    all_goals go_wp2
    all_goals
      have hst := storedW (s := r1) (u := .slice A r2.length c) HX.out HB.out (by omega) HR.out
      exact bodyPost_ret (results_single rfl (.cell (w.heap.size + 1 + 1) 26 #[.int .i64 r1, .slice A r2.length c] (0, 0) _ rfl hst.1 Try.underlying26 rfl sizeW .nil)) rfl ⟨_, rfl, hst.2.1, hst.2.2⟩
  rw [if_neg h2] at h
  have h2b : (a0_0 == a1_0) = false := by simpa using h2
  obtain ⟨q, hcm, h⟩ := Option.bind_eq_some_iff.1 h
  have HCM := Lib.hid (fun (W : World) (hb : Below W0.heap.size W0 W) => spec_l02CompareLimbs.calls k A0_1 c0_1 l0_1 A1_1 c1_1 l1_1 q W (HCa.out W hb) HLa.out (HCb.out W hb) HLb.out hcm)
  clear hcm
  by_cases h3 : q ≥ 0
  · rw [if_pos h3] at h
    obtain ⟨p, hp, h⟩ := Option.bind_eq_some_iff.1 h
    obtain ⟨⟨q1, q2⟩, hm, hq⟩ := Option.bind_eq_some_iff.1 h
    obtain ⟨rfl, rfl⟩ := Prod.mk.inj (Option.some.inj hq)
    have HOP := Lib.hid (fun (W : World) (hb : Below W0.heap.size W0 W) => spec_l02Minus.calls k A0_1 c0_1 l0_1 A1_1 c1_1 l1_1 p W (HCa.out W hb) HLa.out (HCb.out W hb) HLb.out hp)
    have HMK := Lib.hid (fun (W : World) (A : Option Addr) (c : Nat) (hA : (Kd.int .i64).C W A p.length p) (hc : p.length ≤ c) => spec_l02Make.calls k a0_0 A c p _ _ W hA hc hm)
    clear h hq hm hp
    generalize q1 = r1 at *
    generalize q2 = r2 at *
    go_enter Try.func83, Try.ntmps83
    go_upto_region 1 with fail
    rw [← HW.out]
    clear HW
    obtain ⟨⟨⟨c0, c1⟩, d0, d1⟩, ⟨e0, e1, f0, f1⟩, ⟨z0, z1, z2⟩, hx, hbw⟩ := stay.out W0 (Below.refl _ _)
    clear hx hbw
    have n1a : w.heap.size ≠ w.heap.size + 1 + 1 := by omega
    have n1b := Ne.symm n1a
    go_wp2_with fail
    refine (HCM.out _ (Below.refl _ _)).mono ?_
    rintro en w1 ⟨rfl, hd⟩
    have hb := hd.below
    have HBc := Lib.hid hb
    clear hd c0 c1 d0 d1 e0 e1 f0 f1 z0 z1 z2
    obtain ⟨⟨⟨c0, c1⟩, d0, d1⟩, ⟨e0, e1, f0, f1⟩, ⟨z0, z1, z2⟩, hx, hbw⟩ := stay.out w1 hb
    clear hb hx hbw HCM
    go_upto_region 8 with fail
    go_region_held3 (fun w' => (w'.cell? ⟨w.heap.size, 0, none⟩ = some (.int .i64 a0_0) ∧ w'.cell? ⟨w.heap.size, 1, none⟩ = some (.slice A0_1 l0_1.length c0_1)) ∧ w'.cell? ⟨w.heap.size + 1, 0, none⟩ = some (.int .i64 a1_0) ∧ w'.cell? ⟨w.heap.size + 1, 1, none⟩ = some (.slice A1_1 l1_1.length c1_1)) (go_keep)
      (first
        | (go_at_call 116; refine (HOP.out _ (by first | exact HBc.out | exact HBc.out.drew)).mono ?_; rintro en w2 ⟨u, rfl, hR, hb⟩; obtain ⟨A2, c2, rfl⟩ := Kd.R_slice hR; have hX := below_then (show Below W0.heap.size W0 _ by first | exact HBc.out | exact HBc.out.drew) hb; obtain ⟨⟨⟨c0, c1⟩, d0, d1⟩, ⟨e0, e1, f0, f1⟩, ⟨z0, z1, z2⟩, hx, hbw⟩ := stay.out w2 hX; have HX2 := Lib.hid hX; have HRR := Lib.hid (Kd.R_reads' hR); clear hR hb hX hx hbw)
        | (go_at_call 70; refine (HMK.out _ _ _ HRR.out.2.2 HRR.out.2.1).mono ?_; rintro en w3 ⟨u3, rfl, hR, hb⟩; obtain ⟨A, c, rfl⟩ := Kd.R_slice hR; have hX := below_then HX2.out hb; have HR := Lib.hid (Kd.R_lower (base' := w.heap.size) hR (by omega)); obtain ⟨⟨⟨c0, c1⟩, d0, d1⟩, ⟨e0, e1, f0, f1⟩, ⟨z0, z1, z2⟩, hx, hbw⟩ := stay.out w3 hX; have HX := Lib.hid hx; have HB := Lib.hid hbw; clear hR hb hX hx hbw))
    all_goals go_wp2
    all_goals
      have hst := storedW (s := r1) (u := .slice A r2.length c) HX.out HB.out (by omega) HR.out
      exact bodyPost_ret (results_single rfl (.cell (w.heap.size + 1 + 1) 26 #[.int .i64 r1, .slice A r2.length c] (0, 0) _ rfl hst.1 Try.underlying26 rfl sizeW .nil)) rfl ⟨_, rfl, hst.2.1, hst.2.2⟩
  · rw [if_neg h3] at h
    obtain ⟨p, hp, h⟩ := Option.bind_eq_some_iff.1 h
    obtain ⟨⟨q1, q2⟩, hm, hq⟩ := Option.bind_eq_some_iff.1 h
    obtain ⟨rfl, rfl⟩ := Prod.mk.inj (Option.some.inj hq)
    have HOP := Lib.hid (fun (W : World) (hb : Below W0.heap.size W0 W) => spec_l02Minus.calls k A1_1 c1_1 l1_1 A0_1 c0_1 l0_1 p W (HCb.out W hb) HLb.out (HCa.out W hb) HLa.out hp)
    have HMK := Lib.hid (fun (W : World) (A : Option Addr) (c : Nat) (hA : (Kd.int .i64).C W A p.length p) (hc : p.length ≤ c) => spec_l02Make.calls k a1_0 A c p _ _ W hA hc hm)
    clear h hq hm hp
    generalize q1 = r1 at *
    generalize q2 = r2 at *
    go_enter Try.func83, Try.ntmps83
    go_upto_region 1 with fail
    rw [← HW.out]
    clear HW
    obtain ⟨⟨⟨c0, c1⟩, d0, d1⟩, ⟨e0, e1, f0, f1⟩, ⟨z0, z1, z2⟩, hx, hbw⟩ := stay.out W0 (Below.refl _ _)
    clear hx hbw
    have n1a : w.heap.size ≠ w.heap.size + 1 + 1 := by omega
    have n1b := Ne.symm n1a
    go_wp2_with fail
    refine (HCM.out _ (Below.refl _ _)).mono ?_
    rintro en w1 ⟨rfl, hd⟩
    have hb := hd.below
    have HBc := Lib.hid hb
    clear hd c0 c1 d0 d1 e0 e1 f0 f1 z0 z1 z2
    obtain ⟨⟨⟨c0, c1⟩, d0, d1⟩, ⟨e0, e1, f0, f1⟩, ⟨z0, z1, z2⟩, hx, hbw⟩ := stay.out w1 hb
    clear hb hx hbw HCM
    go_upto_region 9 with fail
    go_region_held3 (fun w' => (w'.cell? ⟨w.heap.size, 0, none⟩ = some (.int .i64 a0_0) ∧ w'.cell? ⟨w.heap.size, 1, none⟩ = some (.slice A0_1 l0_1.length c0_1)) ∧ w'.cell? ⟨w.heap.size + 1, 0, none⟩ = some (.int .i64 a1_0) ∧ w'.cell? ⟨w.heap.size + 1, 1, none⟩ = some (.slice A1_1 l1_1.length c1_1)) (go_keep)
      (first
        | (go_at_call 116; refine (HOP.out _ (by first | exact HBc.out | exact HBc.out.drew)).mono ?_; rintro en w2 ⟨u, rfl, hR, hb⟩; obtain ⟨A2, c2, rfl⟩ := Kd.R_slice hR; have hX := below_then (show Below W0.heap.size W0 _ by first | exact HBc.out | exact HBc.out.drew) hb; obtain ⟨⟨⟨c0, c1⟩, d0, d1⟩, ⟨e0, e1, f0, f1⟩, ⟨z0, z1, z2⟩, hx, hbw⟩ := stay.out w2 hX; have HX2 := Lib.hid hX; have HRR := Lib.hid (Kd.R_reads' hR); clear hR hb hX hx hbw)
        | (go_at_call 70; refine (HMK.out _ _ _ HRR.out.2.2 HRR.out.2.1).mono ?_; rintro en w3 ⟨u3, rfl, hR, hb⟩; obtain ⟨A, c, rfl⟩ := Kd.R_slice hR; have hX := below_then HX2.out hb; have HR := Lib.hid (Kd.R_lower (base' := w.heap.size) hR (by omega)); obtain ⟨⟨⟨c0, c1⟩, d0, d1⟩, ⟨e0, e1, f0, f1⟩, ⟨z0, z1, z2⟩, hx, hbw⟩ := stay.out w3 hX; have HX := Lib.hid hx; have HB := Lib.hid hbw; clear hR hb hX hx hbw))
    all_goals go_wp2
    all_goals
      have hst := storedW (s := r1) (u := .slice A r2.length c) HX.out HB.out (by omega) HR.out
      exact bodyPost_ret (results_single rfl (.cell (w.heap.size + 1 + 1) 26 #[.int .i64 r1, .slice A r2.length c] (0, 0) _ rfl hst.1 Try.underlying26 rfl sizeW .nil)) rfl ⟨_, rfl, hst.2.1, hst.2.2⟩
end Go.Proofs.Ytfinbmnjfnajiaa.Ha
end
section
set_option linter.unusedVariables false
set_option linter.unusedSimpArgs false
namespace Go.Proofs.Ytfinbmnjfnajiaa.He
open Go.RowKit Go.Proofs.YtfinbmnjfnajiaaW.PrintWords Go.Proofs.YtfinbmnjfnajiaaW.PrintLast Go.Proofs.YtfinbmnjfnajiaaW.PrintMore Go.Proofs.Ytfinbmnjfnajiaa.PW Go.Proofs.Ytfinbmnjfnajiaa.Pb Go.Proofs.Ytfinbmnjfnajiaa.Pc Go.Proofs.Ytfinbmnjfnajiaa.Pm Go.Proofs.Ytfinbmnjfnajiaa.Pt Go.Proofs.Ytfinbmnjfnajiaa.Ma Go.Proofs.Ytfinbmnjfnajiaa.Mh Go.Proofs.Ytfinbmnjfnajiaa.Mu Go.Proofs.Ytfinbmnjfnajiaa.Mn Dg
def GivesZ (w : World) (z : Int) (e : Ending) (w' : World) : Prop :=
  ∃ A c, e = .returned (.agg #[.int .i64 (sgn z), .slice A (L z.natAbs).length c]) ∧ Kd.R (Kd.int .i64) 2 w' w.heap.size (fun _ => True) (.slice A (L z.natAbs).length c) (L z.natAbs) ∧ Below w.heap.size w w'
def Rd (w : World) (A : Option Addr) (c : Nat) (z : Int) : Prop := Kd.C (Kd.int .i64) w A (L z.natAbs).length (L z.natAbs) ∧ (L z.natAbs).length ≤ c
theorem Rd.below {w w1 : World} {A : Option Addr} {c : Nat} {z : Int} (h : Rd w A c z) (hb : Below w.heap.size w w1) : Rd w1 A c z := ⟨C_at h.1 hb, h.2⟩
theorem Rd.of_R {w : World} {base : Nat} {ok : Nat → Prop} {A : Option Addr} {c : Nat} {z : Int} (h : Kd.R (Kd.int .i64) 2 w base ok (.slice A (L z.natAbs).length c) (L z.natAbs)) : Rd w A c z := by
  have := Kd.R_reads' h
  exact ⟨this.2.2, this.2.1⟩
theorem gives {w : World} {z r1 : Int} {r2 : List Int} (e1 : r1 = sgn z) (e2 : r2 = L z.natAbs) {e : Ending} {w' : World} (h : ∃ v1_ : Value, e = .returned (.agg #[.int .i64 r1, v1_]) ∧ Kd.R (Kd.int .i64) 2 w' w.heap.size (fun _ => True) v1_ r2 ∧ Below w.heap.size w w') : GivesZ w z e w' := by
  subst e1
  subst e2
  obtain ⟨v, rfl, hR, hb⟩ := h
  obtain ⟨A, c, rfl⟩ := Kd.R_slice hR
  exact ⟨A, c, rfl, hR, hb⟩
theorem leftZ {w : World} {A : Option Addr} {c k : Nat} {x : Int} (h : Rd w A c x) (hx : bl x.natAbs ≤ 1000000) (hk : k ≤ 1000000) :
    Calls Try.prog 84 #[.agg #[.int .i64 (sgn x), .slice A (L x.natAbs).length c], .int .i64 k] w (GivesZ w (x * 2 ^ k)) := by
  obtain ⟨n, hn⟩ := (Ss.sleft x k (by omega) (by omega)).rounds
  exact (spec_l02Left.calls n _ A c _ _ _ _ w h.1 h.2 hn).mono fun e w' h => gives rfl rfl h
theorem addZ {w : World} {A B : Option Addr} {c d : Nat} {x y : Int} (h : Rd w A c x) (h' : Rd w B d y) (hx : bl x.natAbs ≤ 1000000) (hy : bl y.natAbs ≤ 1000000) :
    Calls Try.prog 83 #[.agg #[.int .i64 (sgn x), .slice A (L x.natAbs).length c], .agg #[.int .i64 (sgn y), .slice B (L y.natAbs).length d]] w (GivesZ w (x + y)) := by
  obtain ⟨n, hn⟩ := (Pz.sadd x y (by omega) (by omega)).rounds
  exact (Ha.handAdd2 n _ A c _ _ B d _ _ _ w h.1 h.2 h'.1 h'.2 hn).mono fun e w' h => gives rfl rfl h
theorem ofZ {w : World} {n : Int} (h1 : -9223372036854775808 ≤ n) (h2 : n ≤ 9223372036854775807) : Calls Try.prog 82 #[.int .i64 n] w (GivesZ w n) := by
  obtain ⟨k, hk⟩ := (Pv.sof n h1 h2).rounds
  exact (spec_l02Of.calls k n _ _ w hk).mono fun e w' h => gives rfl rfl h
theorem lenZ {w : World} {A : Option Addr} {c : Nat} {x : Int} (h : Rd w A c x) (hx : bl x.natAbs ≤ 1000000) :
    Calls Try.prog 54 #[.agg #[.int .i64 (sgn x), .slice A (L x.natAbs).length c]] w (fun e w' => e = .returned (.int .i64 ((bl x.natAbs : Nat) : Int)) ∧ Below w.heap.size w w') := by
  obtain ⟨k, hk⟩ := (Ps.slength (sgn x) x.natAbs (by omega)).rounds
  exact spec_l02Length.calls k _ A c _ _ w h.1 h.2 hk
theorem scompareN (x y : Nat) (hx : bl x ≤ 1000000) (hy : bl y ≤ 1000000) : Ev (fun k => spec_l02Compare.f k (sgn (x : Int)) (L x) (sgn (y : Int)) (L y)) (sgn ((x : Int) - y)) := by
  have h1 := L_len x
  have h2 := L_len y
  have hc := slimbs (L_dig x) (L_dig y) (L_top x) (L_top y) (by omega) (by omega)
  rw [L_val, L_val] at hc
  have hr := sgn_range ((x : Int) - y)
  unfold spec_l02Compare.f
  by_cases he : sgn (x : Int) = sgn (y : Int)
  · refine ifp he (Ev.bind (f := fun k t => _) hc (ev_of fun _ => ?_))
    congr 1
    by_cases h0 : x = 0
    · subst h0
      have : y = 0 := by
        unfold sgn at he
        rw [if_neg (by omega), if_pos (by omega), if_neg (by omega)] at he
        split at he <;> omega
      subst this
      rw [show sgn ((0 : Nat) : Int) = 0 by decide, Int.zero_mul, show sgn (((0 : Nat) : Int) - ((0 : Nat) : Int)) = 0 by decide, wrapZ _ (by omega) (by omega)]
    · have : sgn (x : Int) = 1 := by unfold sgn; rw [if_neg (by omega), if_neg (by omega)]
      rw [this, Int.one_mul, wrapZ _ (by omega) (by omega)]
  · refine ifn he ?_
    have e1 : sgn (x : Int) = 0 ∧ x = 0 ∨ sgn (x : Int) = 1 ∧ x ≠ 0 := by unfold sgn; rw [if_neg (by omega)]; split <;> omega
    have e2 : sgn (y : Int) = 0 ∧ y = 0 ∨ sgn (y : Int) = 1 ∧ y ≠ 0 := by unfold sgn; rw [if_neg (by omega)]; split <;> omega
    by_cases hlt : sgn (x : Int) < sgn (y : Int)
    · refine ifp hlt (ev_of fun _ => ?_)
      have : (x : Int) - y < 0 := by omega
      rw [show sgn ((x : Int) - y) = -1 by unfold sgn; rw [if_pos this]]
    · refine ifn hlt (ev_of fun _ => ?_)
      have : 0 < (x : Int) - y := by omega
      rw [show sgn ((x : Int) - y) = 1 by unfold sgn; rw [if_neg (by omega), if_neg (by omega)]]
theorem cmpZ {w : World} {A B : Option Addr} {c d x y : Nat} (h : Rd w A c (x : Int)) (h' : Rd w B d (y : Int)) (hx : bl x ≤ 1000000) (hy : bl y ≤ 1000000) :
    Calls Try.prog 85 #[.agg #[.int .i64 (sgn (x : Int)), .slice A (L x).length c], .agg #[.int .i64 (sgn (y : Int)), .slice B (L y).length d]] w (fun e w' => e = .returned (.int .i64 (sgn ((x : Int) - y))) ∧ Below w.heap.size w w') := by
  obtain ⟨k, hk⟩ := (scompareN x y hx hy).rounds
  exact spec_l02Compare.calls k _ A c _ _ B d _ _ w h.1 h.2 h'.1 h'.2 hk
def Wb (w : World) (base g : Nat) (z : Int) : Prop :=
  ∃ A c, w.heap[g]? = some (.cells #[.int .i64 (sgn z), .slice A (L z.natAbs).length c] 26 (0, 0)) ∧ Kd.R (Kd.int .i64) 2 w base (fun _ => True) (.slice A (L z.natAbs).length c) (L z.natAbs)
theorem Wb.below {w w1 : World} {base g : Nat} {z : Int} (h : Wb w base g z) (hb : Below w.heap.size w w1) : Wb w1 base g z := by
  obtain ⟨A, c, hg, hR⟩ := h
  exact ⟨A, c, (hb.block g (Array.getElem?_eq_some_iff.1 hg).1).trans hg, Kd.R_below hR hb⟩
theorem Wb.lt {w : World} {base g : Nat} {z : Int} (h : Wb w base g z) : g < w.heap.size := by
  obtain ⟨A, c, hg, hR⟩ := h
  exact (Array.getElem?_eq_some_iff.1 hg).1
theorem Wb.read {w : World} {base g : Nat} {z : Int} (h : Wb w base g z) : ∃ A c, w.cell? ⟨g, 0, none⟩ = some (.int .i64 (sgn z)) ∧ w.cell? ⟨g, 1, none⟩ = some (.slice A (L z.natAbs).length c) ∧ Rd w A c z ∧ w.frozen? ⟨g, 0, none⟩ = false ∧ w.frozen? ⟨g, 1, none⟩ = false := by
  obtain ⟨A, c, hg, hR⟩ := h
  exact ⟨A, c, blk_cell hg 0, blk_cell hg 1, Rd.of_R hR, blk_frozen hg 0, blk_frozen hg 1⟩
theorem Wb.far {w : World} {base g g1 : Nat} {z : Int} {cs : Array Value} (h : Wb w base g z) (h1 : w.heap[g1]? = some (.cells cs 26 (0, 0))) (hne : g ≠ g1) (u v : Value) :
    Wb ((w.setCell ⟨g1, 0, none⟩ u).setCell ⟨g1, 1, none⟩ v) base g z := by
  obtain ⟨A, c, hg, hR⟩ := h
  exact ⟨A, c, blk_far (blk_far hg hne u) hne v, Kd.R_set (Kd.R_set hR h1 (by decide) 0 _) (blk_set h1 0 _) (by decide) 1 _⟩
theorem Wb.put {w : World} {base g : Nat} {z : Int} {A : Option Addr} {c : Nat} {x0 x1 : Value} (h1 : w.heap[g]? = some (.cells #[x0, x1] 26 (0, 0))) (hR : Kd.R (Kd.int .i64) 2 w base (fun _ => True) (.slice A (L z.natAbs).length c) (L z.natAbs)) :
    Wb ((w.setCell ⟨g, 0, none⟩ (.int .i64 (sgn z))).setCell ⟨g, 1, none⟩ (.slice A (L z.natAbs).length c)) base g z :=
  ⟨A, c, blk_set (blk_set h1 0 _) 1 _, Kd.R_set (Kd.R_set hR h1 (by decide) 0 _) (blk_set h1 0 _) (by decide) 1 _⟩
end Go.Proofs.Ytfinbmnjfnajiaa.He
end
section
set_option linter.unusedVariables false
set_option linter.unusedSimpArgs false
namespace Go.Proofs.Ytfinbmnjfnajiaa.Rs
open Go.RowKit Go.Proofs.YtfinbmnjfnajiaaW.PrintWords Go.Proofs.YtfinbmnjfnajiaaW.PrintLast Go.Proofs.YtfinbmnjfnajiaaW.PrintMore Go.Proofs.Ytfinbmnjfnajiaa.PW Go.Proofs.Ytfinbmnjfnajiaa.Pb Go.Proofs.Ytfinbmnjfnajiaa.Pc Go.Proofs.Ytfinbmnjfnajiaa.Pm Go.Proofs.Ytfinbmnjfnajiaa.Pt Go.Proofs.Ytfinbmnjfnajiaa.Ma Go.Proofs.Ytfinbmnjfnajiaa.Mh Go.Proofs.Ytfinbmnjfnajiaa.Mu Go.Proofs.Ytfinbmnjfnajiaa.Mn Go.Proofs.Ytfinbmnjfnajiaa.He Dg Go.Proofs.Ytfinbmnjfnajiaa.Dz
theorem tdiv_two' (n : Nat) : Int.tdiv ((n : Int) + 1) 2 = (((n + 1) / 2 : Nat) : Int) := by
  have : ((n : Int) + 1) = ((n + 1 : Nat) : Int) := by omega
  rw [this]; rfl
theorem three {w1 : World} {base c : Nat} {A : Option Addr} (hR : Kd.R (Kd.int .i64) 2 w1 base (fun _ => True) (.slice A (L 1).length c) (L 1)) {W2 : World}
    (hW : ((w1.alloc (.cells #[.int .i64 0, .slice none 0 0] 26)).alloc (.cells #[.int .i64 0, .slice none 0 0] 26)).alloc (.cells #[.int .i64 (sgn 1), .slice A (L 1).length c] 26) = W2) :
    Below w1.heap.size w1 W2 ∧ Wb W2 base w1.heap.size ((0 : Nat) : Int) ∧ Wb W2 base (w1.heap.size + 1) ((0 * 0 : Nat) : Int) ∧ Wb W2 base (w1.heap.size + 1 + 1) 1 := by
  have b1 := below_alloc w1 (.cells #[.int .i64 0, .slice none 0 0] 26)
  have b2 := below_alloc (w1.alloc (.cells #[.int .i64 0, .slice none 0 0] 26)) (.cells #[.int .i64 0, .slice none 0 0] 26)
  have b3 := below_alloc ((w1.alloc (.cells #[.int .i64 0, .slice none 0 0] 26)).alloc (.cells #[.int .i64 0, .slice none 0 0] 26)) (.cells #[.int .i64 (sgn 1), .slice A (L 1).length c] 26)
  have n1 := heap_alloc_new w1 (.cells #[.int .i64 0, .slice none 0 0] 26)
  have n2 := heap_alloc_new (w1.alloc (.cells #[.int .i64 0, .slice none 0 0] 26)) (.cells #[.int .i64 0, .slice none 0 0] 26)
  have n3 := heap_alloc_new ((w1.alloc (.cells #[.int .i64 0, .slice none 0 0] 26)).alloc (.cells #[.int .i64 0, .slice none 0 0] 26)) (.cells #[.int .i64 (sgn 1), .slice A (L 1).length c] 26)
  rw [hW] at b3 n3
  rw [alloc_size] at n2
  rw [alloc_size, alloc_size] at n3
  have hz : ∀ (W : World) (g : Nat), W.heap[g]? = some (.cells #[.int .i64 0, .slice none 0 0] 26 (0, 0)) → Wb W base g ((0 : Nat) : Int) := fun W g h => by
    refine ⟨none, 0, ?_, ?_⟩
    · rw [show ((0 : Nat) : Int).natAbs = 0 from rfl, L_zero]; exact h
    · rw [show ((0 : Nat) : Int).natAbs = 0 from rfl, L_zero]; exact Kd.R_nil _ _ _ _ _
  exact ⟨below_then b1 (below_then b2 b3), (hz _ _ n1).below (below_then b2 b3), (hz _ _ n2).below b3, A, c, n3, Kd.R_below hR (below_then b1 (below_then b2 b3))⟩
theorem blwA {a w1 : World} (h : Below a.heap.size a w1) (o : Obj) : Below a.heap.size a (w1.alloc o) := h.alloc h.size o
theorem blwD {B : Nat} {a w1 : World} (h : Below B a w1) : Below B a w1.drew := h.drew
theorem keepB {W w2 : World} (hb : Below W.heap.size W w2) : ∀ (g : Nat) (o : Obj), W.heap[g]? = some o → w2.heap[g]? = some o := fun g o h => (hb.block g (Array.getElem?_eq_some_iff.1 h).1).trans h
def GivesN (w : World) (n : Nat) (e : Ending) (w' : World) : Prop :=
  ∃ A c, e = .returned (.agg #[.int .i64 (sgn (n : Int)), .slice A (L n).length c]) ∧ Kd.R (Kd.int .i64) 2 w' w.heap.size (fun _ => True) (.slice A (L n).length c) (L n) ∧ Below w.heap.size w w'
theorem GivesN.of {w : World} {n : Nat} {z : Int} (hz : z = n) {e : Ending} {w' : World} (h : GivesZ w z e w') : GivesN w n e w' := by
  subst hz
  exact h
set_option maxHeartbeats 8000000 in
set_option maxRecDepth 100000 in
theorem rootS {w : World} {A : Option Addr} {c x : Nat} (ha : Rd w A c (x : Int)) (hx : bl x ≤ 2400) :
    Calls Try.prog 43 #[.agg #[.int .i64 (sgn (x : Int)), .slice A (L x).length c]] w (GivesZ w (rt x : Int)) := by
  have HBW := Lib.hid (boxAndResult w (sgn (x : Int)) A (L x).length c)
  have hO := fun (W : World) => ofZ (w := W) (n := 1) (by decide) (by decide)
  have hLn := fun (W : World) (hb : Below w.heap.size w W) => lenZ (ha.below hb) (by rw [Int.natAbs_natCast]; omega)
  simp only [Int.natAbs_natCast] at hLn
  have e2 := tdiv_two' (bl x)
  have hA := fun (W : World) (hb : Below w.heap.size w W) => ha.below hb
  have HA := Lib.hid hA
  have HO := Lib.hid hO
  have HLN := Lib.hid hLn
  have HFIRST := Lib.hid (Rb.first (x := x))
  have hbx : (bl x + 1) / 2 ≤ 1200 := by omega
  have hbx2 : bl x ≤ 2400 := hx
  generalize hnb : (bl x + 1) / 2 = nb at *
  have HX := Lib.hid hx
  clear hO hLn hA ha hnb hx
  generalize hl : (L x).length = ln at *
  have HL := Lib.hid hl
  generalize hsg : sgn (x : Int) = sx at *
  have HSG := Lib.hid hsg
  clear hl hsg
  go_enter Try.func43, Try.ntmps43
  go_wp2_with fail
  refine (HO.out _).mono ?_
  rintro e w1 ⟨A5, c5, rfl, hR5, hb1⟩
  obtain ⟨h1', c0, c1, ⟨hs, i0, i1⟩, hbx0⟩ := HBW.out w1 (hb1.mono (by simp))
  have HR5 := Lib.hid (Kd.R_lower (base' := w.heap.size) hR5 (by simp; omega))
  have HB1 := Lib.hid (hb1.mono (B' := w.heap.size + 2) (by simp))
  clear hR5 hb1 h1' hbx0 HO c0 c1
  go_upto_region 2 with fail
  generalize hW2 : ((w1.alloc (.cells #[.int .i64 0, .slice none 0 0] 26)).alloc (.cells #[.int .i64 0, .slice none 0 0] 26)).alloc (.cells #[.int .i64 (sgn 1), .slice A5 (L 1).length c5] 26) = W2
  obtain ⟨t1, t2, t3, t4⟩ := three HR5.out hW2
  have HB2 := Lib.hid (HB1.out.trans (t1.mono hs))
  obtain ⟨h1', c0, c1, ⟨hs2, i02, i12⟩, hbx0⟩ := HBW.out W2 HB2.out
  have HLN2 := Lib.hid (HLN.out W2 h1')
  have T2 := Lib.hid t2
  have T3 := Lib.hid t3
  have T4 := Lib.hid t4
  clear t1 t2 t3 t4 h1' hbx0 HR5 HB1 HLN hW2 i0 i1
  generalize w1.heap.size = G at *
  go_wp2_with fail
  refine HLN2.out.mono ?_
  rintro e w3 ⟨rfl, hb3⟩
  have HB3 := Lib.hid (HB2.out.trans (hb3.mono hs2))
  have T23 := Lib.hid (T2.out.below hb3)
  have T33 := Lib.hid (T3.out.below hb3)
  have T43 := Lib.hid (T4.out.below hb3)
  clear hb3 T2 T3 T4 HB2 HLN2 c0 c1 i02 i12
  go_wp2_with fail
  go_loopw [6, 7] (fun i nx wr => ∃ (t : Nat) (j : Int) (o : Nat), i = .int .i64 j ∧ j + 1 = (t : Int) ∧ t ≤ nb + 1 ∧ Hid (Rb x t o) ∧ Hid (Wb wr w.heap.size G (o : Int)) ∧ Hid (Wb wr w.heap.size (G + 1) ((o * o : Nat) : Int)) ∧ Hid (Wb wr w.heap.size (G + 1 + 1) 1) ∧ Hid (Below (w.heap.size + 2) ((w.alloc (.cells #[.int .i64 sx, .slice A ln c] 26)).alloc (.cells #[.int .i64 0, .slice none 0 0] 26)) wr)) (fun i _ _ => (intOf i + 1).toNat)
  case atStart => exact ⟨nb + 1, _, 0, rfl, by omega, Nat.le_refl _, HFIRST, T23, T33, T43, HB3⟩
  case round =>
    clear T23 T33 T43 HB3 HFIRST
    obtain ⟨t, j, o, rfl, hj, ht, HRB, HT, HS, H1, HBE⟩ := hrel
    obtain ⟨hbel, c0, c1, ⟨hs3, i03, i13⟩, hbx0⟩ := HBW.out wr HBE.out
    have HBL := Lib.hid hbel
    have HBX := Lib.hid hbx0
    clear hbel hbx0
    cases t with
    | zero =>
      obtain rfl : j = -1 := by omega
      clear hj
      have hrt := HRB.out.done
      subst hrt
      obtain ⟨A3, c3, hg3, hR3⟩ := HT.out
      have d0 := blk_cell hg3 0
      have d1 := blk_cell hg3 1
      obtain ⟨e0, e1, f0, f1⟩ := cellsOf HBX.out
      have HR3 := Lib.hid hR3
      simp only [List.getElem?_toArray] at d0 d1
      clear hg3 hR3 HT HS H1 HRB
      go_wp2
      have hst := storedW (s := sgn ((rt x : Nat) : Int)) (u := .slice A3 (L (rt x)).length c3) HBX.out HBL.out (by omega) HR3.out
      exact bodyPost_ret (results_single rfl (.cell (w.heap.size + 1) 26 #[.int .i64 (sgn ((rt x : Nat) : Int)), .slice A3 (L (rt x)).length c3] (0, 0) _ rfl hst.1 Try.underlying26 rfl sizeW .nil)) rfl ⟨A3, c3, rfl, hst.2.1, hst.2.2⟩
    | succ k =>
      obtain rfl : j = (k : Int) := by omega
      clear hj
      have hob : bl o ≤ 2400 := by
        have h1 := HRB.out.le
        have h2 : o ≤ x := by
          rcases Nat.eq_zero_or_pos o with h0 | h0
          · omega
          · have := Nat.mul_le_mul_right o h0
            omega
        have := bl_mono h2
        omega
      have hsq : bl (o * o) ≤ 2400 := Nat.le_trans (bl_mono HRB.out.le) (by omega)
      have hk1 : k ≤ 1200 := by omega
      have hp1 : bl (o * 2 ^ (k + 1)) ≤ 3700 := Nat.le_trans (bl_shift_le _ _) (by omega)
      have hp2 : bl (2 ^ (2 * k)) ≤ 2401 := by have := bl_shift_le 1 (2 * k); rw [Nat.one_mul, show bl 1 = 1 from rfl] at this; omega
      have hs1 : bl (o * o + o * 2 ^ (k + 1)) ≤ 3701 := Nat.le_trans (bl_add_le _ _) (by omega)
      have hs2' : bl (o * o + o * 2 ^ (k + 1) + 2 ^ (2 * k)) ≤ 3702 := Nat.le_trans (bl_add_le _ _) (by omega)
      have hnx : o * o + o * 2 ^ (k + 1) + 2 ^ (2 * k) = (o + 2 ^ k) * (o + 2 ^ k) := Rb.next_eq k o
      rw [hnx] at hs2'
      obtain ⟨A3, c3, a0, a1, r3, f30, f31⟩ := HT.out.read
      obtain ⟨A4, c4, b0, b1, r4, f40, f41⟩ := HS.out.read
      obtain ⟨A5', c5', g0, g1, r5, -, -⟩ := H1.out.read
      have HL1 := Lib.hid (show ∀ W, Below wr.heap.size wr W → Calls Try.prog 84 #[.agg #[.int .i64 (sgn (o : Int)), .slice A3 (L o).length c3], .int .i64 (IntKind.i64.wrap ((k : Int) + 1))] W (GivesN W (o * 2 ^ (k + 1))) from fun W hb => by
        rw [show IntKind.i64.wrap ((k : Int) + 1) = (k : Int) + 1 by rw [IntKind.wrap_i64]; omega]
        have := leftZ (k := k + 1) (r3.below hb) (by rw [Int.natAbs_natCast]; omega) (by omega)
        rw [show (((k + 1 : Nat)) : Int) = (k : Int) + 1 by omega] at this
        exact this.mono fun e w' h => GivesN.of (by simp) h)
      have HA1 := Lib.hid (show ∀ (W : World) (B : Option Addr) (d : Nat), Below wr.heap.size wr W → Rd W B d ((o * 2 ^ (k + 1) : Nat) : Int) → Calls Try.prog 83 #[.agg #[.int .i64 (sgn ((o * o : Nat) : Int)), .slice A4 (L (o * o)).length c4], .agg #[.int .i64 (sgn ((o * 2 ^ (k + 1) : Nat) : Int)), .slice B (L (o * 2 ^ (k + 1))).length d]] W (GivesN W (o * o + o * 2 ^ (k + 1))) from fun W B d hb hr =>
        (addZ (r4.below hb) hr (by rw [Int.natAbs_natCast]; omega) (by rw [Int.natAbs_natCast]; omega)).mono fun e w' h => GivesN.of (by simp) h)
      have HL2 := Lib.hid (show ∀ W, Below wr.heap.size wr W → Calls Try.prog 84 #[.agg #[.int .i64 (sgn 1), .slice A5' (L 1).length c5'], .int .i64 (IntKind.i64.wrap (2 * (k : Int)))] W (GivesN W (2 ^ (2 * k))) from fun W hb => by
        rw [show IntKind.i64.wrap (2 * (k : Int)) = 2 * (k : Int) by rw [IntKind.wrap_i64]; omega]
        have := leftZ (k := 2 * k) (r5.below hb) (by decide) (by omega)
        rw [show (((2 * k : Nat)) : Int) = 2 * (k : Int) by omega] at this
        exact this.mono fun e w' h => GivesN.of (by simp) h)
      have HA2 := Lib.hid (show ∀ (W : World) (B B' : Option Addr) (d d' : Nat), Rd W B d ((o * o + o * 2 ^ (k + 1) : Nat) : Int) → Rd W B' d' ((2 ^ (2 * k) : Nat) : Int) → Calls Try.prog 83 #[.agg #[.int .i64 (sgn ((o * o + o * 2 ^ (k + 1) : Nat) : Int)), .slice B (L (o * o + o * 2 ^ (k + 1))).length d], .agg #[.int .i64 (sgn ((2 ^ (2 * k) : Nat) : Int)), .slice B' (L (2 ^ (2 * k))).length d']] W (GivesN W ((o + 2 ^ k) * (o + 2 ^ k))) from fun W B B' d d' hr hr' =>
        (addZ hr hr' (by rw [Int.natAbs_natCast]; omega) (by rw [Int.natAbs_natCast]; omega)).mono fun e w' h => GivesN.of (by rw [← hnx]; simp) h)
      have HX1 := Lib.hid (Below.refl wr.heap.size wr)
      have hGlt := H1.out.lt
      have hGlt1 : G + 1 < wr.heap.size := by omega
      have hGlt0 : G < wr.heap.size := by omega
      have HCELL := Lib.hid (show ∀ W, Below wr.heap.size wr W → (W.cell? ⟨G, 0, none⟩ = some (.int .i64 (sgn (o : Int))) ∧ W.cell? ⟨G, 1, none⟩ = some (.slice A3 (L o).length c3)) ∧ (W.cell? ⟨G + 1, 0, none⟩ = some (.int .i64 (sgn ((o * o : Nat) : Int))) ∧ W.cell? ⟨G + 1, 1, none⟩ = some (.slice A4 (L (o * o)).length c4)) ∧ (W.cell? ⟨G + 1 + 1, 0, none⟩ = some (.int .i64 (sgn 1)) ∧ W.cell? ⟨G + 1 + 1, 1, none⟩ = some (.slice A5' (L 1).length c5')) ∧ wr.heap.size ≤ W.heap.size ∧ (G ≠ W.heap.size ∧ W.heap.size ≠ G) ∧ (G + 1 ≠ W.heap.size ∧ W.heap.size ≠ G + 1) ∧ (G + 1 + 1 ≠ W.heap.size ∧ W.heap.size ≠ G + 1 + 1) ∧ G < W.heap.size ∧ G + 1 < W.heap.size ∧ G + 1 + 1 < W.heap.size from fun W hb =>
        ⟨⟨(hb.cell (p := ⟨G, 0, none⟩) hGlt0).trans a0, (hb.cell (p := ⟨G, 1, none⟩) hGlt0).trans a1⟩, ⟨(hb.cell (p := ⟨G + 1, 0, none⟩) hGlt1).trans b0, (hb.cell (p := ⟨G + 1, 1, none⟩) hGlt1).trans b1⟩, ⟨(hb.cell (p := ⟨G + 1 + 1, 0, none⟩) hGlt).trans g0, (hb.cell (p := ⟨G + 1 + 1, 1, none⟩) hGlt).trans g1⟩, hb.size, by have := hb.size; omega, by have := hb.size; omega, by have := hb.size; omega, by have := hb.size; omega, by have := hb.size; omega, by have := hb.size; omega⟩)
      clear r3 r4 r5
      generalize o * 2 ^ (k + 1) = p1 at *
      generalize hoo : o * o = oo at *
      generalize oo + p1 = s1 at *
      generalize 2 ^ (2 * k) = p2 at *
      generalize hnn : (o + 2 ^ k) * (o + 2 ^ k) = nx at *
      have HNN := Lib.hid hnn
      have HOO := Lib.hid hoo
      clear hnn hoo hnx
      obtain ⟨-, -, -, -, ⟨qa1, qb1⟩, ⟨qc1, qd1⟩, ⟨qe1, qf1⟩, -⟩ := HCELL.out wr HX1.out
      go_upto_region 5 with fail
      go_cut [7] from 19 to 29 (fun nv wx => ∃ g : Nat, nv = .pointer (some ⟨g, 0, none⟩) ∧ G + 1 + 1 < g ∧ Hid (Wb wx w.heap.size g (nx : Int)) ∧ Hid (Below wr.heap.size wr wx))
      case first =>
        clear HT HS H1 HRB HA HX HL HSG HBL HBX HBE hob hsq hk1 hp1 hp2 hs1 hs2' hbx hbx2 e2 ht c0 c1 f30 f31 f40 f41 HNN HOO HBW
        go_region_held3 (fun w' => (w'.cell? ⟨G, 0, none⟩ = some (.int .i64 (sgn (o : Int))) ∧ w'.cell? ⟨G, 1, none⟩ = some (.slice A3 (L o).length c3)) ∧ (w'.cell? ⟨G + 1, 0, none⟩ = some (.int .i64 (sgn (oo : Int))) ∧ w'.cell? ⟨G + 1, 1, none⟩ = some (.slice A4 (L oo).length c4)) ∧ w'.cell? ⟨G + 1 + 1, 0, none⟩ = some (.int .i64 (sgn 1)) ∧ w'.cell? ⟨G + 1 + 1, 1, none⟩ = some (.slice A5' (L 1).length c5')) (go_keep)
          (first
            | (go_at_call 83; have hguard := HP3; clear hguard; refine (HA2.out _ B2 B3 d2 d3 (HP24.out _ (by repeat (with_reducible first | exact Below.refl _ _ | apply blwD | apply blwA))) (HP3.out _ (by repeat (with_reducible first | exact Below.refl _ _ | apply blwD | apply blwA)))).mono ?_; rintro en w5 ⟨B4, d4, rfl, hR, hb⟩; have HX5 := Lib.hid (below_then (show Below wr.heap.size wr _ from (by repeat (with_reducible first | exact HX4.out | apply blwD | apply blwA))) hb); obtain ⟨⟨a0, a1⟩, ⟨b0, b1⟩, ⟨g0, g1⟩, z5, ⟨qa5, qb5⟩, ⟨qc5, qd5⟩, ⟨qe5, qf5⟩, y0, y1, y2⟩ := HCELL.out w5 HX5.out; have HR5 := Lib.hid (Kd.R_lower (base' := w.heap.size) hR (Nat.le_trans (by omega) (show Below wr.heap.size wr _ from (by repeat (with_reducible first | exact HX4.out | apply blwD | apply blwA))).size)); have HK5 := Lib.hid (keepB hb); clear hR hb HA2 HP24 HP3; (first | (have hg := HN; clear hg; have hN := HK5.out _ _ HN.out; have HN := Lib.hid hN; clear hN) | (with_reducible have hN := HK5.out _ _ (heap_alloc_new _ _); have HN := Lib.hid hN; clear hN) | skip); (try (have hg := HN; clear hg; have hcs := cellsOf HN.out; obtain ⟨m0, m1, m2, m3⟩ := hcs)))
            | (go_at_call 84; have hguard := HX3; clear hguard; refine (HL2.out _ (by repeat (with_reducible first | exact HX3.out | apply blwD | apply blwA))).mono ?_; rintro en w4 ⟨B3, d3, rfl, hR, hb⟩; have HX4 := Lib.hid (below_then (show Below wr.heap.size wr _ from (by repeat (with_reducible first | exact HX3.out | apply blwD | apply blwA))) hb); obtain ⟨⟨a0, a1⟩, ⟨b0, b1⟩, ⟨g0, g1⟩, z4, ⟨qa4, qb4⟩, ⟨qc4, qd4⟩, ⟨qe4, qf4⟩, y0, y1, y2⟩ := HCELL.out w4 HX4.out; have HP3 := Lib.hid (show ∀ W, Below w4.heap.size w4 W → Rd W B3 d3 (p2 : Int) from fun W hb' => (Rd.of_R (z := (p2 : Int)) hR).below hb'); have HP24 := Lib.hid (show ∀ W, Below w4.heap.size w4 W → Rd W B2 d2 (s1 : Int) from fun W hb' => (HP2.out w4 (below_then (show Below w3.heap.size w3 _ from (by repeat (with_reducible first | exact Below.refl _ _ | apply blwD | apply blwA))) hb)).below hb'); have HK4 := Lib.hid (keepB hb); clear hR hb HL2 HP2; (first | (have hg := HN; clear hg; have hN := HK4.out _ _ HN.out; have HN := Lib.hid hN; clear hN) | (with_reducible have hN := HK4.out _ _ (heap_alloc_new _ _); have HN := Lib.hid hN; clear hN) | skip); (try (have hg := HN; clear hg; have hcs := cellsOf HN.out; obtain ⟨m0, m1, m2, m3⟩ := hcs)))
            | (go_at_call 83; have hguard := HA1; clear hguard; refine (HA1.out _ B1 d1 (by repeat (with_reducible first | exact HX2.out | apply blwD | apply blwA)) (HP1.out _ (by repeat (with_reducible first | exact Below.refl _ _ | apply blwD | apply blwA)))).mono ?_; rintro en w3 ⟨B2, d2, rfl, hR, hb⟩; have HX3 := Lib.hid (below_then (show Below wr.heap.size wr _ from (by repeat (with_reducible first | exact HX2.out | apply blwD | apply blwA))) hb); obtain ⟨⟨a0, a1⟩, ⟨b0, b1⟩, ⟨g0, g1⟩, z3, ⟨qa3, qb3⟩, ⟨qc3, qd3⟩, ⟨qe3, qf3⟩, y0, y1, y2⟩ := HCELL.out w3 HX3.out; have HP2 := Lib.hid (show ∀ W, Below w3.heap.size w3 W → Rd W B2 d2 (s1 : Int) from fun W hb' => (Rd.of_R (z := (s1 : Int)) hR).below hb'); have HK3 := Lib.hid (keepB hb); clear hR hb HA1 HP1; (first | (have hg := HN; clear hg; have hN := HK3.out _ _ HN.out; have HN := Lib.hid hN; clear hN) | (with_reducible have hN := HK3.out _ _ (heap_alloc_new _ _); have HN := Lib.hid hN; clear hN) | skip); (try (have hg := HN; clear hg; have hcs := cellsOf HN.out; obtain ⟨m0, m1, m2, m3⟩ := hcs)))
            | (go_at_call 84; have hguard := HL1; clear hguard; refine (HL1.out _ (by repeat (with_reducible first | exact HX1.out | apply blwD | apply blwA))).mono ?_; rintro en w2 ⟨B1, d1, rfl, hR, hb⟩; have HX2 := Lib.hid (below_then (show Below wr.heap.size wr _ from (by repeat (with_reducible first | exact HX1.out | apply blwD | apply blwA))) hb); obtain ⟨⟨a0, a1⟩, ⟨b0, b1⟩, ⟨g0, g1⟩, z2, ⟨qa2, qb2⟩, ⟨qc2, qd2⟩, ⟨qe2, qf2⟩, y0, y1, y2⟩ := HCELL.out w2 HX2.out; have HP1 := Lib.hid (show ∀ W, Below w2.heap.size w2 W → Rd W B1 d1 (p1 : Int) from fun W hb' => (Rd.of_R (z := (p1 : Int)) hR).below hb'); have HK2 := Lib.hid (keepB hb); clear hR hb HL1; (first | (have hg := HN; clear hg; have hN := HK2.out _ _ HN.out; have HN := Lib.hid hN; clear hN) | (with_reducible have hN := HK2.out _ _ (heap_alloc_new _ _); have HN := Lib.hid hN; clear hN) | skip); (try (have hg := HN; clear hg; have hcs := cellsOf HN.out; obtain ⟨m0, m1, m2, m3⟩ := hcs))))
        all_goals go_wp2_with fail
        all_goals go_meet
        all_goals
          case rel =>
            first
              | exact ⟨_, rfl, by omega, Lib.hid (Wb.put HN.out HR5.out), Lib.hid ((HX5.out.setCell (p := ⟨_, 0, none⟩) (by first | exact Nat.le_refl _ | assumption) _).setCell (p := ⟨_, 1, none⟩) (by first | exact Nat.le_refl _ | assumption) _)⟩
              | exact ⟨_, rfl, by omega, Lib.hid ⟨B4, d4, heap_alloc_new w5 _, Kd.R_below HR5.out (below_alloc w5 _)⟩, Lib.hid (blwA HX5.out _)⟩
      case rest =>
        clear a0 a1 b0 b1 g0 g1 HCELL HL1 HA1 HL2 HA2 f30 f31 f40 f41 c0 c1 qa1 qb1 qc1 qd1 qe1 qf1 HBX HBL
        obtain ⟨g, rfl, hgG, HNX, HBN⟩ := hcut
        have hszn := HBN.out.size
        have HT2 := Lib.hid (HT.out.below HBN.out)
        have HS2 := Lib.hid (HS.out.below HBN.out)
        have H12 := Lib.hid (H1.out.below HBN.out)
        have HBE2 := Lib.hid (HBE.out.trans (HBN.out.mono hs3))
        clear HT HS H1 HBE HBN
        obtain ⟨hbel, c0, c1, ⟨hs4, i04, i14⟩, hbx0⟩ := HBW.out wc HBE2.out
        obtain ⟨A6, c6, n0, n1, rn, -, -⟩ := HNX.out.read
        have hcm := cmpZ rn (HA.out wc hbel) (by omega) (by have := HX.out; omega)
        rw [HSG.out, HL.out] at hcm
        have HCMP := Lib.hid hcm
        clear hbel hbx0 rn hcm i03 i13
        go_wp2_with fail
        refine HCMP.out.mono ?_
        rintro e w6 ⟨rfl, hb6⟩
        have hsz6 := hb6.size
        have HX6 := Lib.hid (Below.refl w6.heap.size w6)
        have HT6 := Lib.hid (HT2.out.below hb6)
        have HS6 := Lib.hid (HS2.out.below hb6)
        have H16 := Lib.hid (H12.out.below hb6)
        have HN6 := Lib.hid (HNX.out.below hb6)
        have HBE6 := Lib.hid (HBE2.out.trans (hb6.mono hs4))
        clear hb6 HT2 HS2 H12 HNX HBE2 HCMP c0 c1 n0 n1
        by_cases hle : nx ≤ x
        · have hs0 : sgn ((nx : Int) - (x : Int)) ≤ 0 := by unfold sgn; split <;> (try split) <;> omega
          generalize sgn ((nx : Int) - (x : Int)) = sg at *
          have HRB2 := Lib.hid (HRB.out.take (by rw [HNN.out]; exact hle))
          obtain ⟨A3', c3', a0, a1, r3, af0, af1⟩ := HT6.out.read
          obtain ⟨A5x, c5x, b0, b1, r5, -, -⟩ := H16.out.read
          have hGl := HT6.out.lt
          have hGl2 := H16.out.lt
          have hk2 : bl (2 ^ k) ≤ 1201 := by have := bl_shift_le 1 k; rw [Nat.one_mul, show bl 1 = 1 from rfl] at this; omega
          have HCELL6 := Lib.hid (show ∀ W, Below w6.heap.size w6 W → (W.cell? ⟨G, 0, none⟩ = some (.int .i64 (sgn (o : Int))) ∧ W.cell? ⟨G, 1, none⟩ = some (.slice A3' (L o).length c3') ∧ W.frozen? ⟨G, 0, none⟩ = false ∧ W.frozen? ⟨G, 1, none⟩ = false) ∧ W.cell? ⟨G + 1 + 1, 0, none⟩ = some (.int .i64 (sgn 1)) ∧ W.cell? ⟨G + 1 + 1, 1, none⟩ = some (.slice A5x (L 1).length c5x) from fun W hb =>
            ⟨⟨(hb.cell (p := ⟨G, 0, none⟩) hGl).trans a0, (hb.cell (p := ⟨G, 1, none⟩) hGl).trans a1, (hb.frozen (p := ⟨G, 0, none⟩) hGl).trans af0, (hb.frozen (p := ⟨G, 1, none⟩) hGl).trans af1⟩, (hb.cell (p := ⟨G + 1 + 1, 0, none⟩) hGl2).trans b0, (hb.cell (p := ⟨G + 1 + 1, 1, none⟩) hGl2).trans b1⟩)
          have HL3 := Lib.hid (show ∀ W, Below w6.heap.size w6 W → Calls Try.prog 84 #[.agg #[.int .i64 (sgn 1), .slice A5x (L 1).length c5x], .int .i64 (k : Int)] W (GivesN W (2 ^ k)) from fun W hb =>
            (leftZ (k := k) (r5.below hb) (by decide) (by omega)).mono fun e w' h => GivesN.of (by simp) h)
          have HA3 := Lib.hid (show ∀ (W : World) (B : Option Addr) (d : Nat), Below w6.heap.size w6 W → Rd W B d ((2 ^ k : Nat) : Int) → Calls Try.prog 83 #[.agg #[.int .i64 (sgn (o : Int)), .slice A3' (L o).length c3'], .agg #[.int .i64 (sgn ((2 ^ k : Nat) : Int)), .slice B (L (2 ^ k)).length d]] W (GivesN W (o + 2 ^ k)) from fun W B d hb hr =>
            (addZ (r3.below hb) hr (by rw [Int.natAbs_natCast]; omega) (by rw [Int.natAbs_natCast]; omega)).mono fun e w' h => GivesN.of (by simp) h)
          clear r3 r5 HRB
          generalize hpk : 2 ^ k = pk at *
          have HPK := Lib.hid hpk
          clear hpk
          generalize hop : o + pk = op at *
          have HOP := Lib.hid hop
          clear hop
          go_upto_region 7 with fail
          go_region_law (first
            | (go_simp; go_at_call 83; have hguard := HX7; clear hguard; refine (HA3.out _ B7 d7 (by repeat (with_reducible first | exact HX7.out | apply blwD | apply blwA)) (HP7.out _ (by repeat (with_reducible first | exact Below.refl _ _ | apply blwD | apply blwA)))).mono ?_; rintro en w8 ⟨B8, d8, rfl, hR, hb⟩; have HX8 := Lib.hid (below_then (show Below w6.heap.size w6 _ from (by repeat (with_reducible first | exact HX7.out | apply blwD | apply blwA))) hb); obtain ⟨⟨a0, a1, af0, af1⟩, b0, b1⟩ := HCELL6.out w8 HX8.out; have HR8 := Lib.hid (Kd.R_lower (base' := w.heap.size) hR (Nat.le_trans (by omega) (show Below w6.heap.size w6 _ from (by repeat (with_reducible first | exact HX7.out | apply blwD | apply blwA))).size)); clear hR hb HA3 HP7)
            | (go_simp; go_at_call 84; have hguard := HL3; clear hguard; refine (HL3.out _ (by repeat (with_reducible first | exact HX6.out | apply blwD | apply blwA))).mono ?_; rintro en w7 ⟨B7, d7, rfl, hR, hb⟩; have HX7 := Lib.hid (below_then (show Below w6.heap.size w6 _ from (by repeat (with_reducible first | exact HX6.out | apply blwD | apply blwA))) hb); obtain ⟨⟨a0, a1, af0, af1⟩, b0, b1⟩ := HCELL6.out w7 HX7.out; have HP7 := Lib.hid (show ∀ W, Below w7.heap.size w7 W → Rd W B7 d7 (pk : Int) from fun W hb' => (Rd.of_R (z := (pk : Int)) hR).below hb'); clear hR hb HL3))
          all_goals
            obtain ⟨A9, c9, hg9, hR9⟩ := HT6.out.below HX8.out
            have hB8 := HBE6.out.trans (HX8.out.mono (show w.heap.size + 2 ≤ w6.heap.size by omega))
            have t9 := Wb.put (z := (op : Int)) hg9 HR8.out
            have s9 := (HS6.out.below HX8.out).far hg9 (show G + 1 ≠ G by omega) (.int .i64 (sgn (op : Int))) (.slice B8 (L op).length d8)
            have h9 := (H16.out.below HX8.out).far hg9 (show G + 1 + 1 ≠ G by omega) (.int .i64 (sgn (op : Int))) (.slice B8 (L op).length d8)
            have n9 := (HN6.out.below HX8.out).far hg9 (show g ≠ G by omega) (.int .i64 (sgn (op : Int))) (.slice B8 (L op).length d8)
            have b9 := (hB8.setCell (p := ⟨G, 0, none⟩) hs (.int .i64 (sgn (op : Int)))).setCell (p := ⟨G, 1, none⟩) hs (.slice B8 (L op).length d8)
            simp only [Int.natAbs_natCast] at t9
            clear hg9 hR9 hB8 HT6 HS6 H16 HN6 HBE6 HX6 HX7 HX8 HR8 HCELL6 a0 a1 af0 af1 b0 b1
            generalize (w8.setCell ⟨G, 0, none⟩ (.int .i64 (sgn (op : Int)))).setCell ⟨G, 1, none⟩ (.slice B8 (L op).length d8) = w9 at *
            obtain ⟨An, cn, hgn, hRn⟩ := n9
            obtain ⟨As, cs, hgs, hRs⟩ := s9
            simp only [Int.natAbs_natCast] at hgn hRn
            have p0 := blk_cell hgn 0
            have p1 := blk_cell hgn 1
            have q0 := blk_cell hgs 0
            have q1 := blk_cell hgs 1
            have q2 := blk_frozen hgs 0
            have q3 := blk_frozen hgs 1
            have T10 := Lib.hid (t9.far hgs (show G ≠ G + 1 by omega) (.int .i64 (sgn (nx : Int))) (.slice An (L nx).length cn))
            have H10 := Lib.hid (h9.far hgs (show G + 1 + 1 ≠ G + 1 by omega) (.int .i64 (sgn (nx : Int))) (.slice An (L nx).length cn))
            have S10 := Lib.hid (Wb.put (z := (nx : Int)) hgs hRn)
            have B10 := Lib.hid ((b9.setCell (p := ⟨G + 1, 0, none⟩) (show w.heap.size + 2 ≤ G + 1 by omega) (.int .i64 (sgn (nx : Int)))).setCell (p := ⟨G + 1, 1, none⟩) (show w.heap.size + 2 ≤ G + 1 by omega) (.slice An (L nx).length cn))
            clear t9 h9 b9 hgn hRn hgs hRs
            go_wp2
            go_roundw
            case rel => exact ⟨k, (k : Int) - 1, op, rfl, by omega, by omega, HRB2, T10, by rw [HNN.out]; exact S10, H10, B10⟩
            case measure => (simp [intOf]) <;> omega
        · have hs0 : sgn ((nx : Int) - (x : Int)) = 1 := by unfold sgn; rw [if_neg (by omega), if_neg (by omega)]
          rw [hs0]
          have HRB2 := Lib.hid (HRB.out.leave (by rw [HNN.out]; exact hle))
          clear hs0 HRB
          go_wp2
          go_roundw
          case rel => exact ⟨k, (k : Int) - 1, o, rfl, by omega, by omega, HRB2, HT6, by rw [HOO.out]; exact HS6, H16, HBE6⟩
          case measure => (simp [intOf]) <;> omega
end Go.Proofs.Ytfinbmnjfnajiaa.Rs
end
section
set_option linter.unusedVariables false
set_option linter.unusedSimpArgs false
namespace Go.Proofs.Ytfinbmnjfnajiaa.PW
open Go.RowKit Go.Proofs.YtfinbmnjfnajiaaW.PrintWords Go.Proofs.Ytfinbmnjfnajiaa.Pc Go.Proofs.Ytfinbmnjfnajiaa.Pb Go.Proofs.Ytfinbmnjfnajiaa.Pm Go.Proofs.Ytfinbmnjfnajiaa.Pw Go.Proofs.Ytfinbmnjfnajiaa.Ma Go.Proofs.Ytfinbmnjfnajiaa.Mh Go.Proofs.Ytfinbmnjfnajiaa.Mn Go.Proofs.Ytfinbmnjfnajiaa.Mu Go.Proofs.Ytfinbmnjfnajiaa.He Dg Go.Proofs.Ytfinbmnjfnajiaa.Dz
def spec_RootOfWhole.f (_k : Nat) (a0_0 : Int) (l0_1 : List Int) : Option (Int × List Int × Int) := impl_RootOfWhole.f a0_0 l0_1
set_option maxHeartbeats 1600000 in
theorem spec_RootOfWhole.calls (k : Nat) (a0_0 : Int) (A0_1 : Option Addr) (c0_1 : Nat) (l0_1 : List Int) (r1 : Int) (r2 : List Int) (r3 : Int) (w : World) (hr0_1 : Kd.C (Kd.int .i64) w A0_1 l0_1.length l0_1) (hc0_1 : l0_1.length ≤ c0_1) (h : spec_RootOfWhole.f k a0_0 l0_1 = some (r1, r2, r3)) :
    Calls Try.prog 16 #[.agg #[.int .i64 a0_0, .slice A0_1 l0_1.length c0_1]] w fun e w' => ∃ v1_ : Value, e = .returned (.tuple #[.agg #[.int .i64 r1, v1_], .int .i64 r3]) ∧ Kd.R (Kd.int .i64) 2 w' w.heap.size (fun _ => True) v1_ r2 ∧ Below w.heap.size w w' := by
  unfold spec_RootOfWhole.f impl_RootOfWhole.f at h
  obtain ⟨n, hn⟩ := (Pb.l02Is a0_0 l0_1 hr0_1.2.1).rounds
  have hI := fun (W : World) (hb : Below w.heap.size w W) => spec_l02Is.calls n a0_0 A0_1 c0_1 l0_1 _ W (C_at hr0_1 hb) hc0_1 hn
  have HBW := Lib.hid (boxAndResult w a0_0 A0_1 l0_1.length c0_1)
  cases hw : isW a0_0 l0_1 with
  | false =>
    rw [hw] at h hI
    rw [if_neg (by simp)] at h
    obtain ⟨rfl, h2⟩ := Prod.mk.inj (Option.some.inj h)
    obtain ⟨rfl, rfl⟩ := Prod.mk.inj h2
    have HI := Lib.hid hI
    clear h h2 hw hr0_1 hc0_1 hI hn
    go_enter Try.func16, Try.ntmps16
    go_wp2_with fail
    refine (HI.out _ (HBW.out _ (Below.refl _ _)).1).mono ?_
    rintro e w1 ⟨rfl, hb⟩
    obtain ⟨h1', c0, c1, ⟨hs, i0, i1⟩, hbx⟩ := HBW.out _ (hb.mono (by simp))
    have HB1 := Lib.hid h1'
    have HBX := Lib.hid hbx
    obtain ⟨e0, e1, f0, f1⟩ := cellsOf hbx
    clear hb h1' hbx
    go_wp2
    have hst := storedW (s := 0) (u := .slice none 0 0) HBX.out HB1.out (by omega) (Kd.R_nil _ _ _ _ _)
    exact bodyPost_ret (results_ct rfl _ _ (w.heap.size + 1) 26 #[.int .i64 0, .slice none 0 0] (0, 0) _ rfl hst.1 Try.underlying26 rfl sizeW) rfl ⟨_, rfl, hst.2.1, hst.2.2⟩
  | true =>
    rw [hw] at h hI
    rw [if_pos rfl] at h
    have HI := Lib.hid hI
    by_cases hk : a0_0 < 0
    · rw [if_pos hk] at h
      obtain ⟨rfl, h2⟩ := Prod.mk.inj (Option.some.inj h)
      obtain ⟨rfl, rfl⟩ := Prod.mk.inj h2
      clear h h2 hw hr0_1 hc0_1 hI hn
      go_enter Try.func16, Try.ntmps16
      go_wp2_with fail
      refine (HI.out _ (HBW.out _ (Below.refl _ _)).1).mono ?_
      rintro e w1 ⟨rfl, hb⟩
      obtain ⟨h1', c0, c1, ⟨hs, i0, i1⟩, hbx⟩ := HBW.out _ (hb.mono (by simp))
      have HB1 := Lib.hid h1'
      have HBX := Lib.hid hbx
      obtain ⟨e0, e1, f0, f1⟩ := cellsOf hbx
      clear hb h1' hbx
      go_wp2
      have hst := storedW (s := 0) (u := .slice none 0 0) HBX.out HB1.out (by omega) (Kd.R_nil _ _ _ _ _)
      exact bodyPost_ret (results_ct rfl _ _ (w.heap.size + 1) 26 #[.int .i64 0, .slice none 0 0] (0, 0) _ rfl hst.1 Try.underlying26 rfl sizeW) rfl ⟨_, rfl, hst.2.1, hst.2.2⟩
    · rw [if_neg hk] at h
      have h1 := Option.some.inj h
      obtain ⟨q1, q2, b0⟩ := isW_eq hw
      have hv0 : wv a0_0 l0_1 = (((wv a0_0 l0_1).natAbs : Nat) : Int) := by
        have : 0 ≤ wv a0_0 l0_1 := by
          unfold wv
          rw [if_neg hk]
          exact val_nonneg (isW_spec hw).1
        omega
      rw [hv0] at q1
      try simp only [Int.natAbs_natCast] at q1 q2
      generalize (wv a0_0 l0_1).natAbs = x at *
      clear hv0 hw h
      subst q1 q2
      have hrb := rt_bl x
      rw [Mr.fit_yes (by rw [Int.natAbs_natCast]; omega)] at h1
      obtain ⟨rfl, h2⟩ := Prod.mk.inj h1
      obtain ⟨rfl, rfl⟩ := Prod.mk.inj h2
      have hR := fun (W : World) (hb : Below w.heap.size w W) => Rs.rootS (A := A0_1) (c := c0_1) (x := x) ⟨C_at hr0_1 hb, hc0_1⟩ b0
      have HR := Lib.hid hR
      clear hR h1 h2 hr0_1 hc0_1 hI hn hrb b0
      try simp only [Int.natAbs_natCast]
      go_enter Try.func16, Try.ntmps16
      go_wp2_with fail
      refine (HI.out _ (HBW.out _ (Below.refl _ _)).1).mono ?_
      rintro e w1 ⟨rfl, hb⟩
      obtain ⟨h1', c0, c1, ⟨hs, i0, i1⟩, hbx⟩ := HBW.out _ (hb.mono (by simp))
      have HB1 := Lib.hid h1'
      have HB2 := Lib.hid (hb.mono (B' := w.heap.size + 2) (by simp))
      clear hb h1' hbx
      go_wp2_with fail
      refine (HR.out _ HB1.out).mono ?_
      rintro e w6 ⟨A, c, rfl, hRR, hb⟩
      obtain ⟨h1', o0, o1, ⟨hs6, m0, m1⟩, hbx6⟩ := HBW.out _ (HB2.out.trans (hb.mono hs))
      obtain ⟨e0, e1, f0, f1⟩ := cellsOf hbx6
      have HB6 := Lib.hid h1'
      have HBX := Lib.hid hbx6
      have HRR := Lib.hid (Kd.R_lower (base' := w.heap.size) hRR (by omega))
      clear hRR hb h1' hbx6 HB1 HB2 HR
      go_wp2
      have hst := storedW (s := sgn ((rt x : Nat) : Int)) (u := .slice A (L (rt x)).length c) HBX.out HB6.out (by omega) HRR.out
      exact bodyPost_ret (results_ct rfl _ _ (w.heap.size + 1) 26 #[.int .i64 (sgn ((rt x : Nat) : Int)), .slice A (L (rt x)).length c] (0, 0) _ rfl hst.1 Try.underlying26 rfl sizeW) rfl ⟨_, rfl, hst.2.1, hst.2.2⟩
end Go.Proofs.Ytfinbmnjfnajiaa.PW
end
section
set_option linter.unusedVariables false
set_option linter.unusedSimpArgs false
namespace Go.Proofs.Ytfinbmnjfnajiaa.KRootOfWhole
open Go.RowKit Go.Proofs.YtfinbmnjfnajiaaW.PrintWords Go.Proofs.YtfinbmnjfnajiaaW.PrintLast Go.Proofs.YtfinbmnjfnajiaaW.PrintMore Go.Proofs.Ytfinbmnjfnajiaa.PW Go.Proofs.Ytfinbmnjfnajiaa.Pc Go.Proofs.Ytfinbmnjfnajiaa.Ln
set_option maxHeartbeats 800000 in
theorem early0 (s0 : Int) (A0 : Option Addr) (c0 : Nat) (l0 : List Int) (n0 : Int) (w : World)
    (hr0 : Kd.C (Kd.int .i64) w A0 l0.length l0) (hc0 : l0.length ≤ c0) (hz0 : laws_szWhole.f s0 l0 1048576 = some n0) (pz0 : n0 < 0) :
    Calls Try.prog 4 #[.agg #[.int .i64 s0, .slice A0 l0.length c0]] w fun e w' => e = .returned (.bool true) ∧ Below w.heap.size w w' := by
  have Z0 := Lib.hid (fun (W : World) (hb : Below w.heap.size w W) => laws_szWhole.calls s0 A0 c0 l0 1048576 n0 W (Kd.C_below hr0 hb) hc0 hz0)
  have HM : Hid (Mem w (w.alloc (.cells #[.int .i64 s0, .slice A0 l0.length c0] 24)) [.box w.heap.size 24 #[.int .i64 s0, .slice A0 l0.length c0]]) := Lib.hid ((Mem.nil w).box 24 #[.int .i64 s0, .slice A0 l0.length c0])
  clear hr0 hc0 hz0
  go_enter Try.func4, Try.ntmps4
  go_wp2_with fail
  refine (Z0.out _ HM.out.1).mono ?_
  rintro e W1 ⟨rfl, hb⟩
  have HM1 := Lib.hid (HM.out.below hb)
  clear hb HM
  go_wp2
  go_ret
  exact ⟨rfl, HM1.out.1⟩
set_option maxHeartbeats 3200000 in
set_option maxRecDepth 20000 in
theorem path (k : Nat) (s0 : Int) (A0 : Option Addr) (c0 : Nat) (l0 : List Int) (g : Int) (gl : List Int) (cd : Int) (n0 m0 mg : Int) (k0 kg : List Int) (w : World)
    (hr0 : Kd.C (Kd.int .i64) w A0 l0.length l0) (hc0 : l0.length ≤ c0)
    (hz0 : laws_szWhole.f s0 l0 1048576 = some n0) (pz0 : 0 ≤ n0)
    (ht0 : laws_toWhole.f k s0 l0 = some (s0, l0))
    (hsp : spec_RootOfWhole.f k s0 l0 = some (g, gl, cd)) (him : impl_RootOfWhole.f s0 l0 = some (g, gl, cd))
    (heg : laws_eqWhole.f k g gl g gl = some true) (he0 : laws_eqWhole.f k s0 l0 s0 l0 = some true)
    (hm0 : laws_markWhole.f k s0 l0 1 = some (m0, k0)) (pm : 0 ≤ m0)
    (hmg : laws_markWhole.f k g gl 1 = some (mg, kg)) (hhg : laws_heldWhole.f k g kg 1 = some mg) (pmg : 0 ≤ mg) :
    Calls Try.prog 4 #[.agg #[.int .i64 s0, .slice A0 l0.length c0]] w fun e w' => e = .returned (.bool true) ∧ Below w.heap.size w w' := by
  have Z0 := Lib.hid (fun (W : World) (hb : Below w.heap.size w W) => laws_szWhole.calls s0 A0 c0 l0 1048576 n0 W (Kd.C_below hr0 hb) hc0 hz0)
  have T0 := Lib.hid (fun (W : World) (hb : Below w.heap.size w W) => laws_toWhole.calls k s0 A0 c0 l0 s0 l0 W (Kd.C_below hr0 hb) hc0 ht0)
  have SP := Lib.hid (fun (W : World) (B0 : Option Addr) (d0 : Nat) (h0 : Kd.C (Kd.int .i64) W B0 l0.length l0) (x0 : l0.length ≤ d0) => spec_RootOfWhole.calls k s0 B0 d0 l0 g gl cd W h0 x0 hsp)
  have IM := Lib.hid (fun (W : World) (B0 : Option Addr) (d0 : Nat) (h0 : Kd.C (Kd.int .i64) W B0 l0.length l0) (x0 : l0.length ≤ d0) => impl_RootOfWhole.calls s0 B0 d0 l0 g gl cd W h0 x0 him)
  have EG := Lib.hid (fun (W : World) (A : Option Addr) (c : Nat) (B : Option Addr) (d : Nat) (h0 : Kd.C (Kd.int .i64) W A gl.length gl) (hc : gl.length ≤ c) (h1 : Kd.C (Kd.int .i64) W B gl.length gl) (hd : gl.length ≤ d) => laws_eqWhole.calls k g A c gl g B d gl true W h0 hc h1 hd heg)
  have E0 := Lib.hid (fun (W : World) (A : Option Addr) (c : Nat) (B : Option Addr) (d : Nat) (h0 : Kd.C (Kd.int .i64) W A l0.length l0) (hc : l0.length ≤ c) (h1 : Kd.C (Kd.int .i64) W B l0.length l0) (hd : l0.length ≤ d) => laws_eqWhole.calls k s0 A c l0 s0 B d l0 true W h0 hc h1 hd he0)
  have M0 := Lib.hid (fun (W : World) (P : Nat → Prop) (u : Value) (hB : Below w.heap.size w W) (ho : Kd.R (Kd.int .i64) 2 W w.heap.size P u l0) => laws_markWhole.calls k s0 P u l0 1 m0 k0 w W hB ho hm0)
  have MG := Lib.hid (fun (W : World) (P : Nat → Prop) (u : Value) (hB : Below w.heap.size w W) (ho : Kd.R (Kd.int .i64) 2 W w.heap.size P u gl) => laws_markWhole.calls k g P u gl 1 mg kg w W hB ho hmg)
  have HG := Lib.hid (fun (W : World) (A : Option Addr) (n c : Nat) (hn : n = kg.length) (h0 : Kd.C (Kd.int .i64) W A kg.length kg) (hc : kg.length ≤ c) => hn ▸ laws_heldWhole.calls k g A c kg 1 mg W h0 hc hhg)
  have HM : Hid (Mem w (w.alloc (.cells #[.int .i64 s0, .slice A0 l0.length c0] 24)) [.box w.heap.size 24 #[.int .i64 s0, .slice A0 l0.length c0]]) := Lib.hid ((Mem.nil w).box 24 #[.int .i64 s0, .slice A0 l0.length c0])
  clear hr0 hc0 hz0 ht0 hsp him heg he0 hm0 hmg hhg
  go_enter Try.func4, Try.ntmps4
  go_wp2_with fail
  generalize hW0 : (w.alloc (.cells #[.int .i64 s0, .slice A0 l0.length c0] 24)) = W0 at HM ⊢
  clear hW0
  generalize hB1 : w.heap.size = b0 at HM ⊢
  refine (Z0.out _ HM.out.1).mono ?_
  rintro e W11 ⟨rfl, hb⟩
  have HM11 := Lib.hid (Mem.below HM.out hb)
  clear hb HM
  obtain ⟨cb0a, cb0b, cb0c⟩ := HM11.out.cells (.head _)
  go_wp2_with fail
  refine (T0.out _ HM11.out.1).mono ?_
  rintro e W12 ⟨u12, rfl, hR, hb⟩
  obtain ⟨A12, d12, rfl⟩ := Kd.R_slice hR
  have HM12 := Lib.hid (Mem.row HM11.out hR hb)
  clear hR hb HM11
  clear cb0a cb0b cb0c
  obtain ⟨cb0a, cb0b, cb0c⟩ := HM12.out.cells (.tail _ (.head _))
  go_wp2_with fail
  refine (SP.out _ _ _ (HM12.out.reads (.head _)).1 (HM12.out.reads (.head _)).2).mono ?_
  rintro e W13 ⟨u13, rfl, hR, hb⟩
  obtain ⟨A13, d13, rfl⟩ := Kd.R_slice hR
  have HM13 := Lib.hid (Mem.row HM12.out hR hb)
  clear hR hb HM12
  clear cb0a cb0b cb0c
  obtain ⟨cb0a, cb0b, cb0c⟩ := HM13.out.cells (.tail _ (.tail _ (.head _)))
  go_wp2_with fail
  have HM14 := Lib.hid (Mem.box HM13.out 26 #[.int .i64 g, .slice A13 gl.length d13])
  clear HM13
  generalize hW : W13.alloc (.cells #[.int .i64 g, .slice A13 gl.length d13] 26) = W14 at HM14 ⊢
  clear hW
  generalize hb : W13.heap.size = b14 at HM14 ⊢
  refine (T0.out _ HM14.out.1).mono ?_
  rintro e W15 ⟨u15, rfl, hR, hb⟩
  obtain ⟨A15, d15, rfl⟩ := Kd.R_slice hR
  have HM15 := Lib.hid (Mem.row HM14.out hR hb)
  clear hR hb HM14
  clear cb0a cb0b cb0c
  obtain ⟨cb14a, cb14b, cb14c⟩ := HM15.out.cells (.tail _ (.head _))
  obtain ⟨cb0a, cb0b, cb0c⟩ := HM15.out.cells (.tail _ (.tail _ (.tail _ (.tail _ (.head _)))))
  go_wp2_with fail
  have HM16 := Lib.hid (Mem.box HM15.out 26 #[.int .i64 s0, .slice A15 l0.length d15])
  clear HM15
  generalize hW : W15.alloc (.cells #[.int .i64 s0, .slice A15 l0.length d15] 26) = W16 at HM16 ⊢
  clear hW
  generalize hb : W15.heap.size = b16 at HM16 ⊢
  refine (IM.out _ _ _ (HM16.out.reads (.tail _ (.head _))).1 (HM16.out.reads (.tail _ (.head _))).2).mono ?_
  rintro e W17 ⟨u17, rfl, hR, hb⟩
  obtain ⟨A17, d17, rfl⟩ := Kd.R_slice hR
  have HM17 := Lib.hid (Mem.row HM16.out hR hb)
  clear hR hb HM16
  clear cb14a cb14b cb14c cb0a cb0b cb0c
  obtain ⟨cb16a, cb16b, cb16c⟩ := HM17.out.cells (.tail _ (.head _))
  obtain ⟨cb14a, cb14b, cb14c⟩ := HM17.out.cells (.tail _ (.tail _ (.tail _ (.head _))))
  obtain ⟨cb0a, cb0b, cb0c⟩ := HM17.out.cells (.tail _ (.tail _ (.tail _ (.tail _ (.tail _ (.tail _ (.head _)))))))
  go_wp2_with fail
  have HM18 := Lib.hid (Mem.box HM17.out 26 #[.int .i64 g, .slice A17 gl.length d17])
  clear HM17
  generalize hW : W17.alloc (.cells #[.int .i64 g, .slice A17 gl.length d17] 26) = W18 at HM18 ⊢
  clear hW
  generalize hb : W17.heap.size = b18 at HM18 ⊢
  refine (EG.out _ _ _ _ _ (HM18.out.reads (.tail _ (.head _))).1 (HM18.out.reads (.tail _ (.head _))).2 (HM18.out.reads (.tail _ (.tail _ (.tail _ (.tail _ (.tail _ (.head _))))))).1 (HM18.out.reads (.tail _ (.tail _ (.tail _ (.tail _ (.tail _ (.head _))))))).2).mono ?_
  rintro e W19 ⟨rfl, hb⟩
  have HM19 := Lib.hid (Mem.below HM18.out hb)
  clear hb HM18
  clear cb16a cb16b cb16c cb14a cb14b cb14c cb0a cb0b cb0c
  obtain ⟨cb18a, cb18b, cb18c⟩ := HM19.out.cells (.head _)
  obtain ⟨cb16a, cb16b, cb16c⟩ := HM19.out.cells (.tail _ (.tail _ (.head _)))
  obtain ⟨cb14a, cb14b, cb14c⟩ := HM19.out.cells (.tail _ (.tail _ (.tail _ (.tail _ (.head _)))))
  obtain ⟨cb0a, cb0b, cb0c⟩ := HM19.out.cells (.tail _ (.tail _ (.tail _ (.tail _ (.tail _ (.tail _ (.tail _ (.head _))))))))
  go_wp2_with fail
  have TX := T0
  go_region_held3 (fun w' => w'.cell? ⟨b16, 0, none⟩ = some (.int .i64 s0) ∧ w'.cell? ⟨b16, 1, none⟩ = some (.slice A15 l0.length d15) ∧ w'.cell? ⟨b0, 0, none⟩ = some (.int .i64 s0) ∧ w'.cell? ⟨b0, 1, none⟩ = some (.slice A0 l0.length c0)) (go_keep)
    (first
      | (go_at_call 11; refine (TX.out _ (Mem.drew HM19.out).1).mono ?_; rintro e W20 ⟨u20, rfl, hR, hb⟩; obtain ⟨A20, d20, rfl⟩ := Kd.R_slice hR; have HM20 := Lib.hid (Mem.row (Mem.drew HM19.out) hR hb); obtain ⟨cb18a, cb18b, cb18c⟩ := HM20.out.cells (.tail _ (.head _)); obtain ⟨cb16a, cb16b, cb16c⟩ := HM20.out.cells (.tail _ (.tail _ (.tail _ (.head _)))); obtain ⟨cb14a, cb14b, cb14c⟩ := HM20.out.cells (.tail _ (.tail _ (.tail _ (.tail _ (.tail _ (.head _)))))); obtain ⟨cb0a, cb0b, cb0c⟩ := HM20.out.cells (.tail _ (.tail _ (.tail _ (.tail _ (.tail _ (.tail _ (.tail _ (.tail _ (.head _))))))))); clear hR hb TX)
      | (go_at_call 13; refine (E0.out _ _ _ _ _ (HM20.out.reads (.tail _ (.tail _ (.tail _ (.tail _ (.head _)))))).1 (HM20.out.reads (.tail _ (.tail _ (.tail _ (.tail _ (.head _)))))).2 (HM20.out.reads (.head _)).1 (HM20.out.reads (.head _)).2).mono ?_; rintro e W21 ⟨rfl, hb⟩; have HM21 := Lib.hid (Mem.below HM20.out hb).tail; obtain ⟨cb18a, cb18b, cb18c⟩ := HM21.out.cells (.head _); obtain ⟨cb16a, cb16b, cb16c⟩ := HM21.out.cells (.tail _ (.tail _ (.head _))); obtain ⟨cb14a, cb14b, cb14c⟩ := HM21.out.cells (.tail _ (.tail _ (.tail _ (.tail _ (.head _))))); obtain ⟨cb0a, cb0b, cb0c⟩ := HM21.out.cells (.tail _ (.tail _ (.tail _ (.tail _ (.tail _ (.tail _ (.tail _ (.head _)))))))); clear hb))
  go_wp2_with fail
  clear HM19 HM20
  refine (M0.out _ _ _ HM21.out.1 (HM21.out.own (.tail _ (.tail _ (.tail _ (.head _)))))).mono ?_
  rintro e W22 ⟨rfl, hR, hB, hk⟩
  have HM22 := Lib.hid (Mem.mark (bf := [_, _, _]) HM21.out hR hB hk)
  clear hR hB hk HM21
  clear cb18a cb18b cb18c cb16a cb16b cb16c cb14a cb14b cb14c cb0a cb0b cb0c
  obtain ⟨cb18a, cb18b, cb18c⟩ := HM22.out.cells (.head _)
  obtain ⟨cb16a, cb16b, cb16c⟩ := HM22.out.cells (.tail _ (.tail _ (.head _)))
  obtain ⟨cb14a, cb14b, cb14c⟩ := HM22.out.cells (.tail _ (.tail _ (.tail _ (.tail _ (.head _)))))
  obtain ⟨cb0a, cb0b, cb0c⟩ := HM22.out.cells (.tail _ (.tail _ (.tail _ (.tail _ (.tail _ (.tail _ (.tail _ (.head _))))))))
  go_wp2_with fail
  refine (EG.out _ _ _ _ _ (HM22.out.reads (.tail _ (.head _))).1 (HM22.out.reads (.tail _ (.head _))).2 (HM22.out.reads (.tail _ (.tail _ (.tail _ (.tail _ (.tail _ (.head _))))))).1 (HM22.out.reads (.tail _ (.tail _ (.tail _ (.tail _ (.tail _ (.head _))))))).2).mono ?_
  rintro e W23 ⟨rfl, hb⟩
  have HM23 := Lib.hid (Mem.below HM22.out hb)
  clear hb HM22
  clear cb18a cb18b cb18c cb16a cb16b cb16c cb14a cb14b cb14c cb0a cb0b cb0c
  obtain ⟨cb18a, cb18b, cb18c⟩ := HM23.out.cells (.head _)
  obtain ⟨cb16a, cb16b, cb16c⟩ := HM23.out.cells (.tail _ (.tail _ (.head _)))
  obtain ⟨cb14a, cb14b, cb14c⟩ := HM23.out.cells (.tail _ (.tail _ (.tail _ (.tail _ (.head _)))))
  obtain ⟨cb0a, cb0b, cb0c⟩ := HM23.out.cells (.tail _ (.tail _ (.tail _ (.tail _ (.tail _ (.tail _ (.tail _ (.head _))))))))
  go_wp2_with fail
  refine (MG.out _ _ _ HM23.out.1 (HM23.out.own (.tail _ (.head _)))).mono ?_
  rintro e W24 ⟨rfl, hR, hB, hk⟩
  have HM24 := Lib.hid (Mem.mark (bf := [_]) HM23.out hR hB hk)
  clear hR hB hk HM23
  clear cb18a cb18b cb18c cb16a cb16b cb16c cb14a cb14b cb14c cb0a cb0b cb0c
  obtain ⟨cb18a, cb18b, cb18c⟩ := HM24.out.cells (.head _)
  obtain ⟨cb16a, cb16b, cb16c⟩ := HM24.out.cells (.tail _ (.tail _ (.head _)))
  obtain ⟨cb14a, cb14b, cb14c⟩ := HM24.out.cells (.tail _ (.tail _ (.tail _ (.tail _ (.head _)))))
  obtain ⟨cb0a, cb0b, cb0c⟩ := HM24.out.cells (.tail _ (.tail _ (.tail _ (.tail _ (.tail _ (.tail _ (.tail _ (.head _))))))))
  go_wp2_with fail
  refine (HG.out _ _ _ _ (HM24.out.len (.tail _ (.head _))) (HM24.out.reads (.tail _ (.head _))).1 (HM24.out.reads (.tail _ (.head _))).2).mono ?_
  rintro e W25 ⟨rfl, hb⟩
  have HM25 := Lib.hid (Mem.below HM24.out hb)
  clear hb HM24
  clear cb18a cb18b cb18c cb16a cb16b cb16c cb14a cb14b cb14c cb0a cb0b cb0c
  obtain ⟨cb18a, cb18b, cb18c⟩ := HM25.out.cells (.head _)
  obtain ⟨cb16a, cb16b, cb16c⟩ := HM25.out.cells (.tail _ (.tail _ (.head _)))
  obtain ⟨cb14a, cb14b, cb14c⟩ := HM25.out.cells (.tail _ (.tail _ (.tail _ (.tail _ (.head _)))))
  obtain ⟨cb0a, cb0b, cb0c⟩ := HM25.out.cells (.tail _ (.tail _ (.tail _ (.tail _ (.tail _ (.tail _ (.tail _ (.head _))))))))
  go_wp2_with fail
  refine (T0.out _ HM25.out.1).mono ?_
  rintro e W26 ⟨u26, rfl, hR, hb⟩
  obtain ⟨A26, d26, rfl⟩ := Kd.R_slice hR
  have HM26 := Lib.hid (Mem.row HM25.out hR hb)
  clear hR hb HM25
  clear cb18a cb18b cb18c cb16a cb16b cb16c cb14a cb14b cb14c cb0a cb0b cb0c
  obtain ⟨cb18a, cb18b, cb18c⟩ := HM26.out.cells (.tail _ (.head _))
  obtain ⟨cb16a, cb16b, cb16c⟩ := HM26.out.cells (.tail _ (.tail _ (.tail _ (.head _))))
  obtain ⟨cb14a, cb14b, cb14c⟩ := HM26.out.cells (.tail _ (.tail _ (.tail _ (.tail _ (.tail _ (.head _))))))
  obtain ⟨cb0a, cb0b, cb0c⟩ := HM26.out.cells (.tail _ (.tail _ (.tail _ (.tail _ (.tail _ (.tail _ (.tail _ (.tail _ (.head _)))))))))
  go_wp2_with fail
  refine (IM.out _ _ _ (HM26.out.reads (.head _)).1 (HM26.out.reads (.head _)).2).mono ?_
  rintro e W27 ⟨u27, rfl, hR, hb⟩
  obtain ⟨A27, d27, rfl⟩ := Kd.R_slice hR
  have HM27 := Lib.hid (Mem.row HM26.out hR hb)
  clear hR hb HM26
  clear cb18a cb18b cb18c cb16a cb16b cb16c cb14a cb14b cb14c cb0a cb0b cb0c
  obtain ⟨cb18a, cb18b, cb18c⟩ := HM27.out.cells (.tail _ (.tail _ (.head _)))
  obtain ⟨cb16a, cb16b, cb16c⟩ := HM27.out.cells (.tail _ (.tail _ (.tail _ (.tail _ (.head _)))))
  obtain ⟨cb14a, cb14b, cb14c⟩ := HM27.out.cells (.tail _ (.tail _ (.tail _ (.tail _ (.tail _ (.tail _ (.head _)))))))
  obtain ⟨cb0a, cb0b, cb0c⟩ := HM27.out.cells (.tail _ (.tail _ (.tail _ (.tail _ (.tail _ (.tail _ (.tail _ (.tail _ (.tail _ (.head _))))))))))
  go_wp2_with fail
  have HM28 := Lib.hid (Mem.box HM27.out 26 #[.int .i64 g, .slice A27 gl.length d27])
  clear HM27
  generalize hW : W27.alloc (.cells #[.int .i64 g, .slice A27 gl.length d27] 26) = W28 at HM28 ⊢
  clear hW
  generalize hb : W27.heap.size = b28 at HM28 ⊢
  refine (EG.out _ _ _ _ _ (HM28.out.reads (.tail _ (.head _))).1 (HM28.out.reads (.tail _ (.head _))).2 (HM28.out.reads (.tail _ (.tail _ (.tail _ (.tail _ (.tail _ (.tail _ (.tail _ (.tail _ (.head _)))))))))).1 (HM28.out.reads (.tail _ (.tail _ (.tail _ (.tail _ (.tail _ (.tail _ (.tail _ (.tail _ (.head _)))))))))).2).mono ?_
  rintro e W29 ⟨rfl, hb⟩
  have HM29 := Lib.hid (Mem.below HM28.out hb)
  clear hb HM28
  clear cb18a cb18b cb18c cb16a cb16b cb16c cb14a cb14b cb14c cb0a cb0b cb0c
  obtain ⟨cb28a, cb28b, cb28c⟩ := HM29.out.cells (.head _)
  obtain ⟨cb18a, cb18b, cb18c⟩ := HM29.out.cells (.tail _ (.tail _ (.tail _ (.head _))))
  obtain ⟨cb16a, cb16b, cb16c⟩ := HM29.out.cells (.tail _ (.tail _ (.tail _ (.tail _ (.tail _ (.head _))))))
  obtain ⟨cb14a, cb14b, cb14c⟩ := HM29.out.cells (.tail _ (.tail _ (.tail _ (.tail _ (.tail _ (.tail _ (.tail _ (.head _))))))))
  obtain ⟨cb0a, cb0b, cb0c⟩ := HM29.out.cells (.tail _ (.tail _ (.tail _ (.tail _ (.tail _ (.tail _ (.tail _ (.tail _ (.tail _ (.tail _ (.head _)))))))))))
  go_wp2_with fail
  refine (HG.out _ _ _ _ (HM29.out.len (.tail _ (.tail _ (.tail _ (.tail _ (.head _)))))) (HM29.out.reads (.tail _ (.tail _ (.tail _ (.tail _ (.head _)))))).1 (HM29.out.reads (.tail _ (.tail _ (.tail _ (.tail _ (.head _)))))).2).mono ?_
  rintro e W30 ⟨rfl, hb⟩
  have HM30 := Lib.hid (Mem.below HM29.out hb)
  clear hb HM29
  clear cb28a cb28b cb28c cb18a cb18b cb18c cb16a cb16b cb16c cb14a cb14b cb14c cb0a cb0b cb0c
  obtain ⟨cb28a, cb28b, cb28c⟩ := HM30.out.cells (.head _)
  obtain ⟨cb18a, cb18b, cb18c⟩ := HM30.out.cells (.tail _ (.tail _ (.tail _ (.head _))))
  obtain ⟨cb16a, cb16b, cb16c⟩ := HM30.out.cells (.tail _ (.tail _ (.tail _ (.tail _ (.tail _ (.head _))))))
  obtain ⟨cb14a, cb14b, cb14c⟩ := HM30.out.cells (.tail _ (.tail _ (.tail _ (.tail _ (.tail _ (.tail _ (.tail _ (.head _))))))))
  obtain ⟨cb0a, cb0b, cb0c⟩ := HM30.out.cells (.tail _ (.tail _ (.tail _ (.tail _ (.tail _ (.tail _ (.tail _ (.tail _ (.tail _ (.tail _ (.head _)))))))))))
  go_wp2
  go_ret
  exact ⟨rfl, HM30.out.1⟩
end Go.Proofs.Ytfinbmnjfnajiaa.KRootOfWhole
end
