/- Lemmas of the claim: Mf, Mg, Mh, Mi, Mj, Mk, Ml, Mn, Mo, Mq, Mr, Mu, Na, Nd, Nf, Nc, Ng, Nj, Nh, XkCompareDyadics, PLExactCompareDyadicsx59, Qc. -/
import Derived.RegionTactic
import Derived.ChangeAlike
import Derived.Laws.CopyOwn
import Derived.Deep.OwnRows
import Derived.Test.YtdboepiobaehkaaQcpdm
import Derived.Test.YtdboepiobaehkaaQcpdi
import Derived.Deep.RegionLaw
import Derived.Test.YtdboepiobaehkaaQcpdf
import Derived.Test.YtdboepiobaehkaaQcpdh
import Derived.Test.YtdboepiobaehkaaQcpdg
section
set_option linter.unusedVariables false
set_option linter.unusedSimpArgs false
namespace Go.Proofs.Ytdboepiobaehkaa.Mf
open Go.RowKit Go.Proofs.YtdboepiobaehkaaW.PrintWords Go.Proofs.Ytdboepiobaehkaa.PW Go.Proofs.Ytdboepiobaehkaa.Pc Go.Proofs.Ytdboepiobaehkaa.Ma Go.Proofs.Ytdboepiobaehkaa.Mb Go.Proofs.Ytdboepiobaehkaa.Mc Go.Proofs.Ytdboepiobaehkaa.Md Go.Proofs.Ytdboepiobaehkaa.Me Dg
theorem D_or (a b i : Nat) : (D (a ||| b)).getD i 0 = (((a / 4294967296 ^ i % 4294967296) ||| (b / 4294967296 ^ i % 4294967296) : Nat) : Int) := by
  rw [D_getD]
  congr 1
  rw [show (4294967296 : Nat) = 2 ^ 32 from rfl, ← Nat.pow_mul]
  have h1 : (a ||| b) / 2 ^ (32 * i) = a / 2 ^ (32 * i) ||| b / 2 ^ (32 * i) := by
    rw [← Nat.shiftRight_eq_div_pow, ← Nat.shiftRight_eq_div_pow, ← Nat.shiftRight_eq_div_pow, Nat.shiftRight_or_distrib]
  rw [h1, Nat.or_mod_two_pow]
theorem or_list {a b : Nat} {ys : List Int} (hl : ys.length = max (D a).length (D b).length) (h : ∀ j, j < ys.length → ys.getD j 0 = bits .or .u32 ((D a).getD j 0) ((D b).getD j 0)) : Dig 4294967296 ys ∧ val 4294967296 ys = ((a ||| b : Nat) : Int) := by
  have hb : ∀ j, bits .or .u32 ((D a).getD j 0) ((D b).getD j 0) = (((a ||| b) / 4294967296 ^ j % 4294967296 : Nat) : Int) := by
    intro j
    rw [← D_getD, D_or, D_getD, D_getD]
    exact (bits_nat .u32 32 (by decide) Po.wraps_u32 _ _ (Nat.mod_lt _ (by decide)) (Nat.mod_lt _ (by decide))).2
  have h2 : ∀ j, j < ys.length → ys.getD j 0 = (((a ||| b) / 4294967296 ^ j % 4294967296 : Nat) : Int) := fun j hj => by rw [h j hj, hb]
  constructor
  · exact dig_of_getD fun j hj => by rw [h2 j hj]; have := Nat.mod_lt ((a ||| b) / 4294967296 ^ j) (show 0 < 4294967296 by decide); omega
  · rw [val_digits (by decide) ys (a ||| b) h2]
    congr 1
    apply Nat.mod_eq_of_lt
    have e : (4294967296 : Nat) = 2 ^ 32 := rfl
    rw [e, ← Nat.pow_mul]
    apply Nat.or_lt_two_pow
    · have := D_bl a
      have h3 := lt_bl a
      have := Nat.pow_le_pow_right (n := 2) (by decide) (show bl a ≤ 32 * ys.length by omega)
      omega
    · have := D_bl b
      have h3 := lt_bl b
      have := Nat.pow_le_pow_right (n := 2) (by decide) (show bl b ≤ 32 * ys.length by omega)
      omega
theorem made_list (n : Nat) : (madeCells #[Value.int .u32 0] n).toList = (List.replicate n (0 : Int)).map (Value.int .u32) := by
  apply List.ext_getElem
  · simp [madeCells]
  · intro i h1 h2
    simp [madeCells, Nat.mod_one]
theorem splice_list {a : List Int} {n : Nat} (h : a.length ≤ n) : splice ((List.replicate n (0 : Int)).map (Value.int .u32)) 0 (a.map (Value.int .u32)) = (a ++ List.replicate (n - a.length) 0).map (Value.int .u32) := by
  unfold splice
  simp
theorem append_zeros_getD (a : List Int) (k j : Nat) : (a ++ List.replicate k (0 : Int)).getD j 0 = a.getD j 0 := by
  rcases Nat.lt_or_ge j a.length with h | h
  · simp [List.getD, List.getElem?_append_left h]
  · rw [getD_ge h]
    simp [List.getD, List.getElem?_append_right h, List.getElem?_replicate]
    split <;> rfl
def OrTo (a b : Nat) (m i : Nat) (ys : List Int) : Prop := ys.length = m ∧ (∀ j, j < i → ys.getD j 0 = bits .or .u32 ((D a).getD j 0) ((D b).getD j 0)) ∧ (∀ j, i ≤ j → ys.getD j 0 = (D a).getD j 0)
theorem OrTo.step {a b m i : Nat} {ys : List Int} (h : OrTo a b m i ys) (hi : i < m) : OrTo a b m (i + 1) (ys.set i (bits .or .u32 ((D a).getD i 0) ((D b).getD i 0))) := by
  obtain ⟨h1, h2, h3⟩ := h
  refine ⟨by simpa using h1, fun j hj => ?_, fun j hj => ?_⟩
  · by_cases e : j = i
    · subst e; rw [Dg.getD_set_eq (by omega)]
    · rw [Dg.getD_set_ne (by omega)]; exact h2 j (by omega)
  · rw [Dg.getD_set_ne (by omega)]; exact h3 j (by omega)
theorem or_zero (a j : Nat) : bits .or .u32 ((D a).getD j 0) 0 = (D a).getD j 0 := by
  have := (bits_nat .u32 32 (by decide) Po.wraps_u32 (a / 4294967296 ^ j % 4294967296) 0 (Nat.mod_lt _ (by decide)) (by decide)).2
  rw [D_getD]
  simpa using this
theorem OrTo.done {a b m : Nat} {ys : List Int} (h : OrTo a b m (D b).length ys) (hm : m = max (D a).length (D b).length) : Dig 4294967296 ys ∧ val 4294967296 ys = ((a ||| b : Nat) : Int) := by
  obtain ⟨h1, h2, h3⟩ := h
  refine or_list (by omega) fun j hj => ?_
  by_cases hjb : j < (D b).length
  · exact h2 j hjb
  · rw [h3 j (by omega), getD_ge (l := D b) (by omega), or_zero]
theorem nums_set {ys : List Int} {i : Nat} {x : Int} : (ys.map (Value.int .u32)).toArray.setIfInBounds i (.int .u32 x) = ((ys.set i x).map (Value.int .u32)).toArray := by
  simp [List.map_set]
theorem sizeU : (Try.prog.info? 120).map (·.size) = some 1 := by kernel_rfl
set_option maxHeartbeats 1600000 in
set_option maxRecDepth 100000 in
theorem orr {w : World} {p q s : Nat} {x y : Int} (hp : Blk w p) (hx : Z w q x) (hy : Z w s y) (h1 : bl x.natAbs ≤ 536870912) (h2 : bl y.natAbs ≤ 536870912) :
    Calls Try.prog 143 #[.pointer (some ⟨p, 0, none⟩), .pointer (some ⟨q, 0, none⟩), .pointer (some ⟨s, 0, none⟩)] w (Puts w p ((x.natAbs ||| y.natAbs : Nat) : Int)) := by
  obtain ⟨A, c, k0, k1, hm, hq⟩ := Z.open hx
  obtain ⟨B, d, j0, j1, hn, hs⟩ := Z.open hy
  have hl1 := D_len x.natAbs
  have hl2 := D_len y.natAbs
  generalize hla : (D x.natAbs).length = la at *
  generalize hlb : (D y.natAbs).length = lb at *
  have HLA := Lib.hid hla
  have HLB := Lib.hid hlb
  have HM := Lib.hid hm
  have HNN := Lib.hid hn
  have HPB := Lib.hid hp
  have hla2 : la ≤ 536870912 := by omega
  have hlb2 : lb ≤ 536870912 := by omega
  clear hla hlb
  clear hp hx hy hm hn h1 h2 hl1 hl2
  have hfin : ∀ (m : Nat) (ys : List Int) (wr : World), m = max la lb → OrTo x.natAbs y.natAbs m lb ys → wr.heap[w.heap.size]? = some (.cells (ys.map (Value.int .u32)).toArray 120 (0, 0)) → Below w.heap.size w wr →
      Calls Try.prog 182 #[.pointer (some ⟨p, 0, none⟩), .bool false, .slice (some ⟨w.heap.size, 0, none⟩) m m] wr (Puts w p ((x.natAbs ||| y.natAbs : Nat) : Int)) := by
    intro m ys wr hm hor hblk hb
    have hl := hor.1
    rw [← HLB.out] at hor
    obtain ⟨hd, hv⟩ := hor.done (by rw [HLA.out, HLB.out]; exact hm)
    have hr := Mg.row (xs := ys) hblk (by simp) (by omega)
    have := put (neg := false) (HPB.out.below hb) hr hd (by omega)
    rw [hl] at this
    refine this.mono fun e w' h => ?_
    rw [hv] at h
    exact Puts.below hb h
  have HF := Lib.hid hfin
  clear hfin
  by_cases hlt : la < lb
  · have hmk := run_make_row' (P := Try.prog) 109 120 (.int .u32 0) 4 Try.underlying109 infoU rfl .i64 .i64 lb (by omega) (by omega)
    have hlb : lb = max la lb := by omega
    have Hlb := Lib.hid hlb
    clear hlb
    have hlm : lb ≤ lb := Nat.le_refl _
    have HBEL := Lib.hid (show Below w.heap.size w ((w.alloc (.cells (madeCells #[Value.int .u32 0] lb) 120)).drew) from (below_alloc w _).drew)
    have HBLK := Lib.hid (show ((w.alloc (.cells (madeCells #[Value.int .u32 0] lb) 120)).drew).heap[w.heap.size]? = some (.cells ((List.replicate lb (0 : Int)).map (Value.int .u32)).toArray 120 (0, 0)) by
      rw [show ((List.replicate lb (0 : Int)).map (Value.int .u32)).toArray = madeCells #[Value.int .u32 0] lb by rw [← made_list]]
      exact heap_alloc_new w _)
    have HLEN := Lib.hid (show ((D x.natAbs).map (Value.int .u32)).length = Nat.min la lb by rw [List.length_map, HLA.out]; exact (Nat.min_eq_left (by omega)).symm)
    have HFIT := Lib.hid (show 0 + ((D x.natAbs).map (Value.int .u32)).length ≤ ((List.replicate lb (0 : Int)).map (Value.int .u32)).length by rw [List.length_map, List.length_map, List.length_replicate, HLA.out]; omega)
    have HONE := Lib.hid (show ∀ v ∈ (D x.natAbs).map (Value.int .u32), v.oneCell' = true by intro v hv; obtain ⟨u, _, rfl⟩ := List.mem_map.1 hv; rfl)
    have HPOS := Lib.hid (show 0 < ((D x.natAbs).map (Value.int .u32)).length → ∃ ad, A = some ad ∧ ∀ j v, ((D x.natAbs).map (Value.int .u32))[j]? = some v → ((w.alloc (.cells (madeCells #[Value.int .u32 0] lb) 120)).drew).cell? (ad.add j) = some v by
      intro hpos
      rw [List.length_map] at hpos
      have hC := HM.out.1
      obtain ⟨ad, had, _⟩ := Kd.at_int hC 0 (by omega) (by omega)
      subst had
      refine ⟨ad, rfl, fun j v hj => ?_⟩
      rw [List.getElem?_map] at hj
      have hjl : j < (D x.natAbs).length := by
        rcases Nat.lt_or_ge j (D x.natAbs).length with h | h
        · exact h
        · rw [List.getElem?_eq_none h] at hj; cases hj
      obtain ⟨ad', had', hc'⟩ := Kd.at_int hC (j : Int) (by omega) (by omega)
      cases had'
      rw [Int.toNat_natCast, rdN] at hc'
      rw [List.getElem?_eq_getElem hjl, Option.map_some] at hj
      cases hj
      rw [getD_lt hjl] at hc'
      exact (HBEL.out.cell (World.block_lt_of_cell? w _ hc')).trans hc')
    go_enter Try.func143, Try.ntmps143
    go_wp2
    go_region
    clear hmk
    go_wp2_with ((with_reducible refine gate_builtin (b := .copy) (xs := #[.tmp 22, .tmp 26]) rfl ?_); refine wpList_copy_splice rfl (.tmp 22) (.tmp 26) 109 109 rfl 120 Try.underlying109 sizeU (some ⟨w.heap.size, 0, none⟩) A lb lb la c rfl rfl w.heap.size 0 ((List.replicate lb (0 : Int)).map (Value.int .u32)) 120 HBLK.out ((D x.natAbs).map (Value.int .u32)) HLEN.out (fun h_ => ⟨rfl, HPOS.out h_⟩) HFIT.out HONE.out w.heap.size w HBEL.out (Nat.le_refl _) ?_; clear HBLK HLEN HPOS HFIT HONE HBEL; intro w3 hblk hbel; have HB3 := Lib.hid hblk.out; have HBL := Lib.hid hbel; have j1' := (hbel.cell (p := ⟨s, 1, none⟩) hs).trans j1; clear hblk hbel)
    go_loopw [33] (fun i wr => ∃ (k : Nat) (ys : List Int), i = .int .i64 k ∧ k ≤ lb ∧ Hid (OrTo x.natAbs y.natAbs lb k ys) ∧ Hid (wr.heap[w.heap.size]? = some (.cells (ys.map (Value.int .u32)).toArray 120 (0, 0))) ∧ Hid (Below w.heap.size w wr)) (fun i _ => lb - (intOf i).toNat)
    case atStart =>
      have HMA := HM.out
      refine ⟨0, D x.natAbs ++ List.replicate (lb - (D x.natAbs).length) 0, rfl, by omega, Lib.hid ⟨by rw [List.length_append, List.length_replicate, HLA.out]; omega, fun j hj => by omega, fun j _ => append_zeros_getD _ _ _⟩, Lib.hid ?_, HBL⟩
      have := HB3.out
      rw [splice_list (by rw [HLA.out]; omega)] at this
      exact this
    case round =>
      obtain ⟨k, ys, rfl, hk, HO, HW, HBR⟩ := hrel
      by_cases hkb : k < lb
      · obtain ⟨ad, hBad, hcell⟩ := Kd.at_int HNN.out.1 (k : Int) (by omega) (by rw [HLB.out]; omega)
        subst hBad
        rw [Int.toNat_natCast, rdN] at hcell
        have hcell' := (HBR.out.cell (World.block_lt_of_cell? w _ hcell)).trans hcell
        clear hcell
        have hyl := HO.out.1
        have hrow := blk_cell HW.out k
        have hfro := blk_frozen HW.out k
        have hyk : (ys.map (Value.int .u32)).toArray[k]? = some (.int .u32 ((D x.natAbs).getD k 0)) := by
          rw [List.getElem?_toArray, List.getElem?_map, List.getElem?_eq_getElem (by omega), ← HO.out.2.2 k (Nat.le_refl _), getD_lt (by omega)]; rfl
        rw [hyk] at hrow
        have HS := Lib.hid (HO.out.step (by omega))
        have hnext : ((wr.setCell ⟨w.heap.size, k, none⟩ (.int .u32 (bits .or .u32 ((D x.natAbs).getD k 0) ((D y.natAbs).getD k 0)))).heap[w.heap.size]?) = some (.cells ((ys.set k (bits .or .u32 ((D x.natAbs).getD k 0) ((D y.natAbs).getD k 0))).map (Value.int .u32)).toArray 120 (0, 0)) := by
          rw [blk_set HW.out k, nums_set]
        have HNX := Lib.hid hnext
        have HBN := Lib.hid (HBR.out.setCell (p := ⟨w.heap.size, k, none⟩) (Nat.le_refl _) (.int .u32 (bits .or .u32 ((D x.natAbs).getD k 0) ((D y.natAbs).getD k 0))))
        clear hnext hyk hyl HO HW HBR
        generalize (D x.natAbs).getD k 0 = u at *
        generalize (D y.natAbs).getD k 0 = v at *
        go_wp2
        go_roundw
        case rel => exact ⟨k + 1, _, by go_num, by omega, HS, HNX, HBN⟩
        case measure => simp [intOf]; omega
      · obtain rfl : lb = k := by omega
        have HC := Lib.hid (HF.out lb ys wr Hlb.out HO.out HW.out HBR.out)
        clear HO HW HBR
        go_wp2_with (go_at_call 182; refine HC.out.mono ?_; rintro e w2 ⟨rfl, hz2, hg2⟩; have HE := Lib.hid (show Puts w p ((x.natAbs ||| y.natAbs : Nat) : Int) _ w2 from ⟨rfl, hz2, hg2⟩); clear hz2 hg2)
        go_ret
        exact HE.out
  · have hmk := run_make_row' (P := Try.prog) 109 120 (.int .u32 0) 4 Try.underlying109 infoU rfl .i64 .i64 la (by omega) (by omega)
    have hla : la = max la lb := by omega
    have Hla := Lib.hid hla
    clear hla
    have hlm : lb ≤ la := by omega
    have HBEL := Lib.hid (show Below w.heap.size w ((w.alloc (.cells (madeCells #[Value.int .u32 0] la) 120)).drew) from (below_alloc w _).drew)
    have HBLK := Lib.hid (show ((w.alloc (.cells (madeCells #[Value.int .u32 0] la) 120)).drew).heap[w.heap.size]? = some (.cells ((List.replicate la (0 : Int)).map (Value.int .u32)).toArray 120 (0, 0)) by
      rw [show ((List.replicate la (0 : Int)).map (Value.int .u32)).toArray = madeCells #[Value.int .u32 0] la by rw [← made_list]]
      exact heap_alloc_new w _)
    have HLEN := Lib.hid (show ((D x.natAbs).map (Value.int .u32)).length = Nat.min la la by rw [List.length_map, HLA.out]; exact (Nat.min_eq_left (by omega)).symm)
    have HFIT := Lib.hid (show 0 + ((D x.natAbs).map (Value.int .u32)).length ≤ ((List.replicate la (0 : Int)).map (Value.int .u32)).length by rw [List.length_map, List.length_map, List.length_replicate, HLA.out]; omega)
    have HONE := Lib.hid (show ∀ v ∈ (D x.natAbs).map (Value.int .u32), v.oneCell' = true by intro v hv; obtain ⟨u, _, rfl⟩ := List.mem_map.1 hv; rfl)
    have HPOS := Lib.hid (show 0 < ((D x.natAbs).map (Value.int .u32)).length → ∃ ad, A = some ad ∧ ∀ j v, ((D x.natAbs).map (Value.int .u32))[j]? = some v → ((w.alloc (.cells (madeCells #[Value.int .u32 0] la) 120)).drew).cell? (ad.add j) = some v by
      intro hpos
      rw [List.length_map] at hpos
      have hC := HM.out.1
      obtain ⟨ad, had, _⟩ := Kd.at_int hC 0 (by omega) (by omega)
      subst had
      refine ⟨ad, rfl, fun j v hj => ?_⟩
      rw [List.getElem?_map] at hj
      have hjl : j < (D x.natAbs).length := by
        rcases Nat.lt_or_ge j (D x.natAbs).length with h | h
        · exact h
        · rw [List.getElem?_eq_none h] at hj; cases hj
      obtain ⟨ad', had', hc'⟩ := Kd.at_int hC (j : Int) (by omega) (by omega)
      cases had'
      rw [Int.toNat_natCast, rdN] at hc'
      rw [List.getElem?_eq_getElem hjl, Option.map_some] at hj
      cases hj
      rw [getD_lt hjl] at hc'
      exact (HBEL.out.cell (World.block_lt_of_cell? w _ hc')).trans hc')
    go_enter Try.func143, Try.ntmps143
    go_wp2
    go_region
    clear hmk
    go_wp2_with ((with_reducible refine gate_builtin (b := .copy) (xs := #[.tmp 22, .tmp 26]) rfl ?_); refine wpList_copy_splice rfl (.tmp 22) (.tmp 26) 109 109 rfl 120 Try.underlying109 sizeU (some ⟨w.heap.size, 0, none⟩) A la la la c rfl rfl w.heap.size 0 ((List.replicate la (0 : Int)).map (Value.int .u32)) 120 HBLK.out ((D x.natAbs).map (Value.int .u32)) HLEN.out (fun h_ => ⟨rfl, HPOS.out h_⟩) HFIT.out HONE.out w.heap.size w HBEL.out (Nat.le_refl _) ?_; clear HBLK HLEN HPOS HFIT HONE HBEL; intro w3 hblk hbel; have HB3 := Lib.hid hblk.out; have HBL := Lib.hid hbel; have j1' := (hbel.cell (p := ⟨s, 1, none⟩) hs).trans j1; clear hblk hbel)
    go_loopw [33] (fun i wr => ∃ (k : Nat) (ys : List Int), i = .int .i64 k ∧ k ≤ lb ∧ Hid (OrTo x.natAbs y.natAbs la k ys) ∧ Hid (wr.heap[w.heap.size]? = some (.cells (ys.map (Value.int .u32)).toArray 120 (0, 0))) ∧ Hid (Below w.heap.size w wr)) (fun i _ => lb - (intOf i).toNat)
    case atStart =>
      have HMA := HM.out
      refine ⟨0, D x.natAbs ++ List.replicate (la - (D x.natAbs).length) 0, rfl, by omega, Lib.hid ⟨by rw [List.length_append, List.length_replicate, HLA.out]; omega, fun j hj => by omega, fun j _ => append_zeros_getD _ _ _⟩, Lib.hid ?_, HBL⟩
      have := HB3.out
      rw [splice_list (by rw [HLA.out]; omega)] at this
      exact this
    case round =>
      obtain ⟨k, ys, rfl, hk, HO, HW, HBR⟩ := hrel
      by_cases hkb : k < lb
      · obtain ⟨ad, hBad, hcell⟩ := Kd.at_int HNN.out.1 (k : Int) (by omega) (by rw [HLB.out]; omega)
        subst hBad
        rw [Int.toNat_natCast, rdN] at hcell
        have hcell' := (HBR.out.cell (World.block_lt_of_cell? w _ hcell)).trans hcell
        clear hcell
        have hyl := HO.out.1
        have hrow := blk_cell HW.out k
        have hfro := blk_frozen HW.out k
        have hyk : (ys.map (Value.int .u32)).toArray[k]? = some (.int .u32 ((D x.natAbs).getD k 0)) := by
          rw [List.getElem?_toArray, List.getElem?_map, List.getElem?_eq_getElem (by omega), ← HO.out.2.2 k (Nat.le_refl _), getD_lt (by omega)]; rfl
        rw [hyk] at hrow
        have HS := Lib.hid (HO.out.step (by omega))
        have hnext : ((wr.setCell ⟨w.heap.size, k, none⟩ (.int .u32 (bits .or .u32 ((D x.natAbs).getD k 0) ((D y.natAbs).getD k 0)))).heap[w.heap.size]?) = some (.cells ((ys.set k (bits .or .u32 ((D x.natAbs).getD k 0) ((D y.natAbs).getD k 0))).map (Value.int .u32)).toArray 120 (0, 0)) := by
          rw [blk_set HW.out k, nums_set]
        have HNX := Lib.hid hnext
        have HBN := Lib.hid (HBR.out.setCell (p := ⟨w.heap.size, k, none⟩) (Nat.le_refl _) (.int .u32 (bits .or .u32 ((D x.natAbs).getD k 0) ((D y.natAbs).getD k 0))))
        clear hnext hyk hyl HO HW HBR
        generalize (D x.natAbs).getD k 0 = u at *
        generalize (D y.natAbs).getD k 0 = v at *
        go_wp2
        go_roundw
        case rel => exact ⟨k + 1, _, by go_num, by omega, HS, HNX, HBN⟩
        case measure => simp [intOf]; omega
      · obtain rfl : lb = k := by omega
        have HC := Lib.hid (HF.out la ys wr Hla.out HO.out HW.out HBR.out)
        clear HO HW HBR
        go_wp2_with (go_at_call 182; refine HC.out.mono ?_; rintro e w2 ⟨rfl, hz2, hg2⟩; have HE := Lib.hid (show Puts w p ((x.natAbs ||| y.natAbs : Nat) : Int) _ w2 from ⟨rfl, hz2, hg2⟩); clear hz2 hg2)
        go_ret
        exact HE.out
end Go.Proofs.Ytdboepiobaehkaa.Mf
end
section
set_option linter.unusedVariables false
set_option linter.unusedSimpArgs false
namespace Go.Proofs.Ytdboepiobaehkaa.Mg
open Go.RowKit Go.Proofs.YtdboepiobaehkaaW.PrintWords Go.Proofs.Ytdboepiobaehkaa.PW Go.Proofs.Ytdboepiobaehkaa.Pc Go.Proofs.Ytdboepiobaehkaa.Ma Go.Proofs.Ytdboepiobaehkaa.Mb Go.Proofs.Ytdboepiobaehkaa.Mc Go.Proofs.Ytdboepiobaehkaa.Md Go.Proofs.Ytdboepiobaehkaa.Me Go.Proofs.Ytdboepiobaehkaa.Mf Dg
def hiv (l : List Int) (k : Nat) : Int := val 16777216 (l.drop k)
theorem hiv_nonneg {l : List Int} (h : Dig 16777216 l) (k : Nat) : 0 ≤ hiv l k := val_nonneg (h.drop k)
theorem hiv_blN {l : List Int} (h : Dig 16777216 l) (N : Nat) (hl : 24 * l.length ≤ N) (k : Nat) : bl (hiv l k).natAbs ≤ N := by
  apply bl_le
  have h1 := val_lt (by decide) (h.drop k)
  have h0 := hiv_nonneg h k
  have h2 : (16777216 : Nat) ^ (l.drop k).length ≤ 2 ^ N := by
    rw [show (16777216 : Nat) = 2 ^ 24 from rfl, ← Nat.pow_mul]
    exact Nat.pow_le_pow_right (by decide) (by rw [List.length_drop]; omega)
  have h3 : ((16777216 : Nat) : Int) ^ (l.drop k).length = ((16777216 ^ (l.drop k).length : Nat) : Int) := by simp
  unfold hiv at *
  rw [h3] at h1
  exact Nat.lt_of_lt_of_le (by omega) h2
theorem hiv_bl {l : List Int} (h : Dig 16777216 l) (hl : l.length ≤ 100) (k : Nat) : bl (hiv l k).natAbs ≤ 2400 := hiv_blN h 2400 (by omega) k
theorem hiv_step {l : List Int} (h : Dig 16777216 l) (k : Nat) : hiv l k = ((((hiv l (k + 1)) * 2 ^ 24).natAbs ||| (l.getD k 0).natAbs : Nat) : Int) := by
  have h0 := hiv_nonneg h (k + 1)
  have hd := h.all0 (by decide) k
  have e : hiv l k = l.getD k 0 + 16777216 * hiv l (k + 1) := val_drop' l k
  obtain ⟨a, ha⟩ := Int.eq_ofNat_of_zero_le h0
  obtain ⟨d, hd'⟩ := Int.eq_ofNat_of_zero_le hd.1
  have hdl : d < 16777216 := by have := hd.2; omega
  rw [e, ha, hd']
  have e2 : ((a : Int) * 2 ^ 24).natAbs = 2 ^ 24 * a := by
    have : ((a : Int) * 2 ^ 24) = ((2 ^ 24 * a : Nat) : Int) := by simp [Int.mul_comm]
    rw [this, Int.natAbs_natCast]
  rw [e2, Int.natAbs_natCast, ← Nat.two_pow_add_eq_or_of_lt (i := 24) hdl a]
  omega
theorem below_grownB {w w1 w2 : World} {g : Nat} (h : Below g w w1) (hg : g ≤ w1.heap.size) (k : w1.grownBy w2 (some g)) : Below g w w2 :=
  h.trans ⟨k.os, k.tape, k.output, k.size, fun i hi => k.block i (by omega) (by simp; omega)⟩
theorem below_then0 {w w1 w2 : World} (h : Below w.heap.size w w1) (k : Below w.heap.size w1 w2) : Below w.heap.size w w2 := h.trans k
set_option maxHeartbeats 1600000 in
theorem toBig {w : World} {s : Int} {A : Option Addr} {c : Nat} {l : List Int} (hC : (Kd.int .i64).C w A l.length l) (hd : Dig 16777216 l) (hl : l.length ≤ 100) :
    Calls Try.prog 84 #[.agg #[.int .i64 s, .slice A l.length c]] w (News w (if s < 0 then -(val 16777216 l) else val 16777216 l)) := by
  obtain ⟨W1, hW1⟩ : ∃ W1, W1 = w.alloc (.cells #[.int .i64 s, .slice A l.length c] 29) := ⟨_, rfl⟩
  obtain ⟨W2, hW2⟩ : ∃ W2, W2 = W1.alloc (.cells #[.bool false, .slice none 0 0] 111) := ⟨_, rfl⟩
  have hs1 : W1.heap.size = w.heap.size + 1 := by rw [hW1]; simp
  have hb1 : Below w.heap.size w W1 := by rw [hW1]; exact below_alloc w _
  have hb2 : Below W1.heap.size W1 W2 := by rw [hW2]; exact below_alloc W1 _
  have hb02 : Below w.heap.size w W2 := below_then hb1 hb2
  have hz2 : Z W2 W1.heap.size 0 := by rw [hW2]; exact Z.new W1
  have hbox : W1.heap[w.heap.size]? = some (.cells #[.int .i64 s, .slice A l.length c] 29 (0, 0)) := by rw [hW1]; exact heap_alloc_new w _
  have hbox2 := (hb2.block w.heap.size (by omega)).trans hbox
  -- what a round knows
  have hcell : ∀ wr : World, Below (w.heap.size + 1) W2 wr → (wr.cell? ⟨w.heap.size, 0, none⟩ = some (.int .i64 s) ∧ wr.cell? ⟨w.heap.size, 1, none⟩ = some (.slice A l.length c)) := by
    intro wr h
    have := (h.block w.heap.size (by omega)).trans hbox2
    exact ⟨blk_cell this 0, blk_cell this 1⟩
  have hlimb : ∀ (wr : World) (k : Nat), k < l.length → Below (w.heap.size + 1) W2 wr → ∃ ad, A = some ad ∧ wr.cell? (ad.add k) = some (.int .i64 (l.getD k 0)) := by
    intro wr k hk h
    obtain ⟨ad, hA, hc⟩ := Kd.at_int hC (k : Int) (by omega) (by omega)
    rw [Int.toNat_natCast, rdN] at hc
    have hlt := World.block_lt_of_cell? w _ hc
    exact ⟨ad, hA, ((h.mono (by omega)).cell hlt).trans ((hb02.cell hlt).trans hc)⟩
  have hW : W2 = (w.alloc (.cells #[.int .i64 s, .slice A l.length c] 29)).alloc (.cells #[.bool false, .slice none 0 0] 111) := by rw [hW2, hW1]
  rw [hs1] at hz2
  have HW := Lib.hid hW
  have HC := Lib.hid hcell
  have HL := Lib.hid hlimb
  have H02 := Lib.hid hb02
  have HZ2 := Lib.hid hz2
  have HD := Lib.hid hd
  have HBX := Lib.hid hbox2
  clear hW hW1 hW2 hcell hlimb hb02 hz2 hbox hbox2 hb1 hb2 hs1 hC hd
  clear W1
  -- one round: shifted, a limb put in
  have hsh : ∀ (wr : World) (k : Nat), Z wr (w.heap.size + 1) (hiv l (k + 1)) → Calls Try.prog 127 #[.pointer (some ⟨w.heap.size + 1, 0, none⟩), .pointer (some ⟨w.heap.size + 1, 0, none⟩), .int .u64 24] wr (Puts wr (w.heap.size + 1) (hiv l (k + 1) * 2 ^ 24)) := by
    intro wr k hz
    have := hiv_bl HD.out hl (k + 1)
    exact lsh (n := 24) hz.blk hz (by omega) (by omega)
  have hor : ∀ (wr : World) (k g : Nat), Z wr (w.heap.size + 1) (hiv l (k + 1) * 2 ^ 24) → Z wr g (l.getD k 0) → Calls Try.prog 143 #[.pointer (some ⟨w.heap.size + 1, 0, none⟩), .pointer (some ⟨w.heap.size + 1, 0, none⟩), .pointer (some ⟨g, 0, none⟩)] wr (Puts wr (w.heap.size + 1) (hiv l k)) := by
    intro wr k g hz hg
    have h1 := hiv_bl HD.out hl (k + 1)
    have hx := HD.out.all0 (by decide) k
    have h3 : bl (hiv l (k + 1) * 2 ^ 24).natAbs ≤ 536870912 := by
      rw [Int.natAbs_mul, show ((2 : Int) ^ 24).natAbs = 2 ^ 24 from rfl]
      have := bl_shift_le (hiv l (k + 1)).natAbs 24
      omega
    have h4 : bl (l.getD k 0).natAbs ≤ 536870912 := Nat.le_trans (bl_le (k := 24) (by omega)) (by omega)
    rw [hiv_step HD.out k]
    exact orr hz.blk hz hg h3 h4
  have hnew : ∀ (wr : World) (k : Nat), Calls Try.prog 113 #[.int .i64 (l.getD k 0)] wr (News wr (l.getD k 0)) := by
    intro wr k
    have hx := HD.out.all0 (by decide) k
    exact newInt (by omega) (by omega)
  have hfin : ∀ wr, Z wr (w.heap.size + 1) (hiv l 0) → Calls Try.prog 144 #[.pointer (some ⟨w.heap.size + 1, 0, none⟩), .pointer (some ⟨w.heap.size + 1, 0, none⟩)] wr (Puts wr (w.heap.size + 1) (-(hiv l 0))) := by
    intro wr hz
    have := hiv_bl HD.out hl 0
    exact neg hz.blk hz (by omega)
  have hout : ∀ (wr : World) (z : Int), Below (w.heap.size + 1) W2 wr → Z wr (w.heap.size + 1) z → News w z (.returned (.pointer (some ⟨w.heap.size + 1, 0, none⟩))) wr := by
    intro wr z hb hz
    exact ⟨_, rfl, hz, by omega, below_then0 H02.out (hb.mono (by omega))⟩
  have HSH := Lib.hid hsh
  have HOR := Lib.hid hor
  have HNW := Lib.hid hnew
  have HFN := Lib.hid hfin
  have HOUT := Lib.hid hout
  clear hsh hor hnew hfin hout
  have hv0 : hiv l 0 = val 16777216 l := by unfold hiv; rw [List.drop_zero]
  rw [← hv0]
  clear hv0
  by_cases hneg : s < 0
  all_goals
    go_enter Try.func84, Try.ntmps84
    go_wp2_with fail
    go_loopw [4] (fun i wr => ∃ k : Nat, i = .int .i64 ((k : Int) - 1) ∧ k ≤ l.length ∧ Hid (Z wr (w.heap.size + 1) (hiv l k)) ∧ Hid (Below (w.heap.size + 1) W2 wr)) (fun i _ => (intOf i + 1).toNat)
    case atStart =>
      refine ⟨l.length, rfl, Nat.le_refl _, Lib.hid ?_, Lib.hid ?_⟩
      · rw [← HW.out, show hiv l l.length = 0 by unfold hiv; rw [List.drop_length]; rfl]; exact HZ2.out
      · rw [← HW.out]; exact Below.refl _ _
    case round =>
      obtain ⟨k, rfl, hk, HZ, HB⟩ := hrel
      cases k with
      | zero =>
        obtain ⟨c0, c1⟩ := HC.out wr HB.out
        have HO := Lib.hid (HOUT.out wr _ HB.out HZ.out)
        have HN := Lib.hid (HFN.out wr HZ.out)
        have hlt : ((0 : Nat) : Int) - 1 = -1 := rfl
        rw [hlt]
        clear hlt
        go_wp2_with (first | (go_at_call 144; refine HN.out.mono ?_; rintro e w2 ⟨rfl, hz2, hg2⟩; have HO := Lib.hid (HOUT.out w2 _ (below_grownB HB.out (Nat.le_of_lt HZ.out.lt) hg2) hz2); clear hz2 hg2))
        go_ret
        exact HO.out
      | succ k =>
        have hlt : ((k + 1 : Nat) : Int) - 1 = (k : Int) := by omega
        rw [hlt]
        clear hlt
        go_wp2_with fail
        refine (HSH.out wr k HZ.out).mono ?_
        rintro e w2 ⟨rfl, hz2, hg2⟩
        have hb2 := below_grownB HB.out (Nat.le_of_lt HZ.out.lt) hg2
        obtain ⟨c0, c1⟩ := HC.out w2 hb2
        obtain ⟨ad, hA, hl2⟩ := HL.out w2 k (by omega) hb2
        subst hA
        have HZ3 := Lib.hid hz2
        have HB3 := Lib.hid hb2
        clear hz2 hg2 hb2 HZ HB
        go_wp2_with fail
        refine (HNW.out w2 k).mono ?_
        rintro e w3 ⟨g, rfl, hz3, hg3, hb3⟩
        have HZ4 := Lib.hid (HZ3.out.below hb3)
        have HB4 := Lib.hid (HB3.out.trans (hb3.mono (by have := HZ3.out.lt; omega)))
        have HZ5 := Lib.hid hz3
        clear hz3 hg3 hb3 HZ3 HB3 c0 c1 hl2
        go_wp2_with fail
        refine (HOR.out w3 k g HZ4.out HZ5.out).mono ?_
        rintro e w4 ⟨rfl, hz6, hg6⟩
        have HZ6 := Lib.hid hz6
        have HB6 := Lib.hid (below_grownB HB4.out (Nat.le_of_lt HZ4.out.lt) hg6)
        clear hz6 hg6
        go_wp2
        go_roundw
        case rel => exact ⟨k, rfl, by omega, HZ6, HB6⟩
        case measure => (simp [intOf]) <;> omega
end Go.Proofs.Ytdboepiobaehkaa.Mg
end
section
set_option linter.unusedVariables false
set_option linter.unusedSimpArgs false
namespace Go.Proofs.Ytdboepiobaehkaa.Mh
open Go.RowKit Go.Proofs.YtdboepiobaehkaaW.PrintWords Go.Proofs.Ytdboepiobaehkaa.PW Go.Proofs.Ytdboepiobaehkaa.Pc Go.Proofs.Ytdboepiobaehkaa.Pb Go.Proofs.Ytdboepiobaehkaa.Pw Go.Proofs.Ytdboepiobaehkaa.Ma Go.Proofs.Ytdboepiobaehkaa.Mb Go.Proofs.Ytdboepiobaehkaa.Mc Go.Proofs.Ytdboepiobaehkaa.Md Go.Proofs.Ytdboepiobaehkaa.Me Go.Proofs.Ytdboepiobaehkaa.Mg Dg
theorem cBig {w : World} {s : Int} {A : Option Addr} {c : Nat} {l : List Int} (hC : (Kd.int .i64).C w A l.length l) (h : isW s l = true) :
    Calls Try.prog 84 #[.agg #[.int .i64 s, .slice A l.length c]] w (News w (wv s l)) := by
  obtain ⟨hd, hl, _, _⟩ := isW_spec h
  exact toBig hC hd hl
theorem C_at {w w1 : World} {A : Option Addr} {l : List Int} (hC : (Kd.int .i64).C w A l.length l) (hb : Below w.heap.size w w1) : (Kd.int .i64).C w1 A l.length l := Kd.C_below hC hb
end Go.Proofs.Ytdboepiobaehkaa.Mh
end
section
set_option linter.unusedVariables false
set_option linter.unusedSimpArgs false
namespace Go.Proofs.Ytdboepiobaehkaa.Mi
open Go.RowKit Go.Proofs.YtdboepiobaehkaaW.PrintWords Go.Proofs.Ytdboepiobaehkaa.PW Go.Proofs.Ytdboepiobaehkaa.Pc Go.Proofs.Ytdboepiobaehkaa.Ma Go.Proofs.Ytdboepiobaehkaa.Mb Go.Proofs.Ytdboepiobaehkaa.Mc Go.Proofs.Ytdboepiobaehkaa.Md Go.Proofs.Ytdboepiobaehkaa.Me Dg
open Pm (sgn)
set_option maxHeartbeats 800000 in
theorem cmp {w : World} {p q : Nat} {x y : Int} (hx : Z w p x) (hy : Z w q y) (h1 : bl x.natAbs ≤ 1073741823) (h2 : bl y.natAbs ≤ 1073741823) :
    Calls Try.prog 173 #[.pointer (some ⟨p, 0, none⟩), .pointer (some ⟨q, 0, none⟩)] w (Tells w (.int .i64 (sgn (x - y)))) := by
  obtain ⟨A, c, k0, k1, hm, hp⟩ := Z.open hx
  obtain ⟨B, d, j0, j1, hn, hq⟩ := Z.open hy
  have hC := fun (W : World) (hb : Below w.heap.size w W) => cCmp (hm.below hb) (hn.below hb) (by omega) (by omega)
  have hD := fun (W : World) (hb : Below w.heap.size w W) => cCmp (hn.below hb) (hm.below hb) (by omega) (by omega)
  by_cases hxn : x < 0 <;> by_cases hyn : y < 0
  · have e : sgn ((y.natAbs : Int) - x.natAbs) = sgn (x - y) := by congr 1; omega
    rw [e] at hD
    rw [show decide (x < 0) = true by simpa using hxn] at k0
    rw [show decide (y < 0) = true by simpa using hyn] at j0
    have HD := Lib.hid hD
    clear hC hD e hxn hyn h1 h2 hm hn hx hy
    go_enter Try.func173, Try.ntmps173
    go_wp2
    go_quiet ((go_at_call 213; exact Calls.quiet_of (HD.out _ (below_drawn _))))
    go_wp2
    go_ret
    exact ⟨rfl, _, rfl⟩
  · have e : sgn (x - y) = -1 := by unfold sgn; rw [if_pos (by omega)]
    rw [e]
    rw [show decide (x < 0) = true by simpa using hxn] at k0
    rw [show decide (y < 0) = false by simpa using hyn] at j0
    clear hC hD e hxn hyn h1 h2 hm hn hx hy
    go_enter Try.func173, Try.ntmps173
    go_wp2
    go_ret
    exact ⟨rfl, 0, rfl⟩
  · have e : sgn (x - y) = 1 := by unfold sgn; rw [if_neg (by omega), if_neg (by omega)]
    rw [e]
    rw [show decide (x < 0) = false by simpa using hxn] at k0
    rw [show decide (y < 0) = true by simpa using hyn] at j0
    clear hC hD e hxn hyn h1 h2 hm hn hx hy
    go_enter Try.func173, Try.ntmps173
    go_wp2
    go_ret
    exact ⟨rfl, 0, rfl⟩
  · have e : sgn ((x.natAbs : Int) - y.natAbs) = sgn (x - y) := by congr 1; omega
    rw [e] at hC
    rw [show decide (x < 0) = false by simpa using hxn] at k0
    rw [show decide (y < 0) = false by simpa using hyn] at j0
    have HC := Lib.hid hC
    clear hC hD e hxn hyn h1 h2 hm hn hx hy
    go_enter Try.func173, Try.ntmps173
    go_wp2
    go_quiet ((go_at_call 213; exact Calls.quiet_of (HC.out _ (below_drawn _))))
    go_wp2
    go_ret
    exact ⟨rfl, _, rfl⟩
def sv (n : Bool) (m : Nat) : Int := if n = true then -(m : Int) else m
theorem sv_abs (z : Int) : sv (decide (z < 0)) z.natAbs = z := natAbs_if z
set_option maxHeartbeats 1600000 in
theorem plus {w : World} {p q : Nat} {x : Int} {neg : Bool} {B : Option Addr} {d m : Nat} (hp : Blk w p) (hx : Z w q x) (hn : Mg w B d (D m)) (h1 : bl x.natAbs ≤ 536870912) (h2 : bl m ≤ 536870912) :
    Calls Try.prog 200 #[.pointer (some ⟨p, 0, none⟩), .pointer (some ⟨q, 0, none⟩), .bool neg, .slice B (D m).length d] w (Puts w p (x + sv neg m)) := by
  obtain ⟨A, c, k0, k1, hm, hq⟩ := Z.open hx
  have hadd := bl_add_le x.natAbs m
  have hA := fun (W : World) (hb : Below w.heap.size w W) => (cAdd (hm.below hb) (hn.below hb) (by omega) (by omega)).mono fun e w' h => GivesMg.of hb h
  have hC := fun (W : World) (hb : Below w.heap.size w W) => cCmp (hm.below hb) (hn.below hb) (by omega) (by omega)
  by_cases hs : decide (x < 0) = neg
  · -- one sign
    have e : (if neg = true then -((x.natAbs + m : Nat) : Int) else ((x.natAbs + m : Nat) : Int)) = x + sv neg m := by
      rw [← sv_abs x, hs]; unfold sv
      cases neg <;> simp <;> omega
    have hP := fun (w1 : World) (A' : Option Addr) (c' : Nat) h1 h2 => put_of (w1 := w1) (A := A') (c := c') (neg := neg) (n := x.natAbs + m) hp h1 h2 (by omega)
    rw [e] at hP
    rw [hs] at k0
    have HP := Lib.hid hP
    have HA := Lib.hid hA
    clear hA hC hP e hs hadd h1 h2 hm hn hx hp
    cases neg
    all_goals
      go_enter Try.func200, Try.ntmps200
      go_wp2_with fail
      refine (HA.out _ (Below.refl _ _)).mono ?_
      rintro e w1 ⟨A', c', rfl, hm', hb'⟩
      have HPM := Lib.hid (HP.out w1 A' c' hb' hm')
      clear hm' hb'
      go_wp2_with fail
      refine HPM.out.mono ?_
      rintro e w2 ⟨rfl, hz2, hg2⟩
      have HE := Lib.hid (show Puts w p _ _ w2 from ⟨rfl, hz2, hg2⟩)
      clear hz2 hg2
      go_wp2
      go_ret
      exact HE.out
  · have hneq : neg = !decide (x < 0) := by cases neg <;> cases h : decide (x < 0) <;> simp_all
    by_cases hge : m ≤ x.natAbs
    · have hS := fun (W : World) (hb : Below w.heap.size w W) => (cSub (hm.below hb) (hn.below hb) (by omega) hge).mono fun e w' h => GivesMg.of hb h
      have hmo := bl_mono (Nat.sub_le x.natAbs m)
      have e : (if decide (x < 0) = true then -((x.natAbs - m : Nat) : Int) else ((x.natAbs - m : Nat) : Int)) = x + sv neg m := by
        rw [hneq]; unfold sv
        by_cases h : x < 0 <;> simp [h] <;> omega
      have hP := fun (w1 : World) (A' : Option Addr) (c' : Nat) h1 h2 => put_of (w1 := w1) (A := A') (c := c') (neg := decide (x < 0)) (n := x.natAbs - m) hp h1 h2 (by omega)
      rw [e] at hP
      have es : sgn ((x.natAbs : Int) - m) = sgn ((x.natAbs - m : Nat) : Int) := by congr 1; omega
      have es0 : 0 ≤ sgn ((x.natAbs : Int) - m) := by unfold sgn; split <;> (try split) <;> omega
      have HP := Lib.hid hP
      have HS := Lib.hid hS
      have HC := Lib.hid hC
      clear hA hC hP hS e hs hadd h1 h2 hm hn hx hp es hmo hge
      generalize sgn ((x.natAbs : Int) - m) = sg at *
      rw [hneq] at *
      clear hneq
      generalize decide (x < 0) = b at *
      cases b
      all_goals
        go_enter Try.func200, Try.ntmps200
        go_wp2_with fail
        refine (HC.out _ (Below.refl _ _)).mono ?_
        rintro e w1 ⟨rfl, n, rfl⟩
        go_wp2_with fail
        go_region_with (first | (go_at_call 211; refine (HS.out _ (by first | exact below_drawn _ | exact (below_drawn _).drew)).mono ?_; rintro e w1 ⟨A', c', rfl, hm', hb'⟩; have HPM := Lib.hid (HP.out w1 A' c' hb' hm'); have k0' := (hb'.cell (p := ⟨q, 0, none⟩) hq).trans k0; clear hm' hb') | (go_at_call 182; refine HPM.out.mono ?_; rintro e w2 ⟨rfl, hz2, hg2⟩; have HE := Lib.hid (show Puts w p _ _ w2 from ⟨rfl, hz2, hg2⟩); clear hz2 hg2))
        all_goals go_wp2
        all_goals go_ret
        all_goals exact HE.out
    · have hS := fun (W : World) (hb : Below w.heap.size w W) => (cSub (hn.below hb) (hm.below hb) (by omega) (by omega)).mono fun e w' h => GivesMg.of hb h
      have hmo := bl_mono (Nat.sub_le m x.natAbs)
      have e : (if neg = true then -((m - x.natAbs : Nat) : Int) else ((m - x.natAbs : Nat) : Int)) = x + sv neg m := by
        rw [hneq]; unfold sv
        by_cases h : x < 0 <;> simp [h] <;> omega
      have hP := fun (w1 : World) (A' : Option Addr) (c' : Nat) h1 h2 => put_of (w1 := w1) (A := A') (c := c') (neg := neg) (n := m - x.natAbs) hp h1 h2 (by omega)
      rw [e] at hP
      have es : sgn ((x.natAbs : Int) - m) = -1 := by unfold sgn; rw [if_pos (by omega)]
      rw [es] at hC
      have HP := Lib.hid hP
      have HS := Lib.hid hS
      have HC := Lib.hid hC
      clear hA hC hP hS e hs hadd h1 h2 hm hn hx hp es hmo hge
      rw [hneq] at *
      clear hneq
      generalize decide (x < 0) = b at *
      cases b
      all_goals
        go_enter Try.func200, Try.ntmps200
        go_wp2_with fail
        refine (HC.out _ (Below.refl _ _)).mono ?_
        rintro e w1 ⟨rfl, n, rfl⟩
        go_wp2_with fail
        refine (HS.out _ (below_drawn _)).mono ?_
        rintro e w1 ⟨A', c', rfl, hm', hb'⟩
        have HPM := Lib.hid (HP.out w1 A' c' hb' hm')
        clear hm' hb'
        go_wp2_with fail
        refine HPM.out.mono ?_
        rintro e w2 ⟨rfl, hz2, hg2⟩
        have HE := Lib.hid (show Puts w p _ _ w2 from ⟨rfl, hz2, hg2⟩)
        clear hz2 hg2
        go_wp2
        go_ret
        exact HE.out
end Go.Proofs.Ytdboepiobaehkaa.Mi
end
section
set_option linter.unusedVariables false
set_option linter.unusedSimpArgs false
namespace Go.Proofs.Ytdboepiobaehkaa.Mj
open Go.RowKit Go.Proofs.YtdboepiobaehkaaW.PrintWords Go.Proofs.Ytdboepiobaehkaa.PW Go.Proofs.Ytdboepiobaehkaa.Pc Go.Proofs.Ytdboepiobaehkaa.Ma Go.Proofs.Ytdboepiobaehkaa.Mb Go.Proofs.Ytdboepiobaehkaa.Mc Go.Proofs.Ytdboepiobaehkaa.Md Go.Proofs.Ytdboepiobaehkaa.Me Go.Proofs.Ytdboepiobaehkaa.Mi Dg
open Pm (sgn)
theorem Puts.of {w W w' : World} {p : Nat} {z : Int} {e : Ending} (hb : Below w.heap.size w W) (h : Puts W p z e w') : Puts w p z e w' := Mc.Puts.below hb h
set_option maxHeartbeats 1600000 in
theorem add {w : World} {p q s : Nat} {x y : Int} (hp : Blk w p) (hx : Z w q x) (hy : Z w s y) (h1 : bl x.natAbs ≤ 536870912) (h2 : bl y.natAbs ≤ 536870912) :
    Calls Try.prog 152 #[.pointer (some ⟨p, 0, none⟩), .pointer (some ⟨q, 0, none⟩), .pointer (some ⟨s, 0, none⟩)] w (Puts w p (x + y)) := by
  obtain ⟨B, d, j0, j1, hn, hs⟩ := Z.open hy
  have hP := fun (W : World) (hb : Below w.heap.size w W) => (plus (neg := decide (y < 0)) (hp.below hb) (hx.below hb) (hn.below hb) h1 h2).mono fun e w' h => Puts.of hb h
  rw [sv_abs] at hP
  have HP := Lib.hid hP
  clear hP hn h1 h2 hp hx hy
  generalize decide (y < 0) = b at *
  go_enter Try.func152, Try.ntmps152
  go_wp2
  go_region_with (go_at_call 200; refine (HP.out _ (by first | exact Below.refl _ _ | exact (Below.refl _ _).drew)).mono ?_; rintro e w2 ⟨rfl, hz2, hg2⟩; have HE := Lib.hid (show Puts w p (x + y) _ w2 from ⟨rfl, hz2, hg2⟩); clear hz2 hg2)
  all_goals go_wp2
  all_goals go_ret
  all_goals exact HE.out
set_option maxHeartbeats 1600000 in
theorem sub {w : World} {p q s : Nat} {x y : Int} (hp : Blk w p) (hx : Z w q x) (hy : Z w s y) (h1 : bl x.natAbs ≤ 536870912) (h2 : bl y.natAbs ≤ 536870912) :
    Calls Try.prog 171 #[.pointer (some ⟨p, 0, none⟩), .pointer (some ⟨q, 0, none⟩), .pointer (some ⟨s, 0, none⟩)] w (Puts w p (x - y)) := by
  obtain ⟨B, d, j0, j1, hn, hs⟩ := Z.open hy
  have hP := fun (W : World) (hb : Below w.heap.size w W) => (plus (neg := !decide (y < 0)) (hp.below hb) (hx.below hb) (hn.below hb) h1 h2).mono fun e w' h => Puts.of hb h
  rw [show sv (!decide (y < 0)) y.natAbs = -y from natAbs_neg_if y, ← Int.sub_eq_add_neg] at hP
  have HP := Lib.hid hP
  clear hP hn h1 h2 hp hx hy
  generalize decide (y < 0) = b at *
  go_enter Try.func171, Try.ntmps171
  go_wp2
  go_region_with (go_at_call 200; refine (HP.out _ (by first | exact Below.refl _ _ | exact (Below.refl _ _).drew)).mono ?_; rintro e w2 ⟨rfl, hz2, hg2⟩; have HE := Lib.hid (show Puts w p (x - y) _ w2 from ⟨rfl, hz2, hg2⟩); clear hz2 hg2)
  all_goals go_wp2
  all_goals go_ret
  all_goals exact HE.out
end Go.Proofs.Ytdboepiobaehkaa.Mj
end
section
set_option linter.unusedVariables false
set_option linter.unusedSimpArgs false
namespace Go.Proofs.Ytdboepiobaehkaa.Mk
open Go.RowKit Go.Proofs.YtdboepiobaehkaaW.PrintWords Go.Proofs.Ytdboepiobaehkaa.PW Go.Proofs.Ytdboepiobaehkaa.Pc Go.Proofs.Ytdboepiobaehkaa.Ma Go.Proofs.Ytdboepiobaehkaa.Mb Go.Proofs.Ytdboepiobaehkaa.Mc Go.Proofs.Ytdboepiobaehkaa.Md Go.Proofs.Ytdboepiobaehkaa.Me Go.Proofs.Ytdboepiobaehkaa.Mi Go.Proofs.Ytdboepiobaehkaa.Mj Dg
open Pm (sgn)
theorem D_one : D 1 = [1] := by
  have := D_of (l := [1]) (Dig.cons (by decide) (by decide) Dig.nil) (by intro _ h; simp at h)
  exact this
theorem Mg_one {w : World} : Mg (w.alloc (.cells #[.int .u32 1] 120)) (some ⟨w.heap.size, 0, none⟩) 1 (D 1) := by
  rw [D_one]
  exact Mg.row (xs := [1]) (heap_alloc_new w _) rfl (by simp)
theorem shr_neg {z : Int} (hz : z < 0) (n : Nat) : -(((z.natAbs - 1) / 2 ^ n + 1 : Nat) : Int) = z / 2 ^ n := by
  obtain ⟨m, hm⟩ : ∃ m : Nat, z = Int.negSucc m := ⟨z.natAbs - 1, by omega⟩
  subst hm
  have e : ((2 : Int) ^ n) = ((2 ^ n : Nat) : Int) := by simp
  rw [Int.negSucc_ediv _ (by rw [e]; have := Nat.two_pow_pos n; omega), e]
  show -(((m + 1 - 1) / 2 ^ n + 1 : Nat) : Int) = _
  rw [Nat.add_sub_cancel]
  rfl
theorem shr_pos {z : Int} (hz : ¬ z < 0) (n : Nat) : ((z.natAbs / 2 ^ n : Nat) : Int) = z / 2 ^ n := by
  have e : ((2 : Int) ^ n) = ((2 ^ n : Nat) : Int) := by simp
  obtain ⟨m, rfl⟩ := Int.eq_ofNat_of_zero_le (show 0 ≤ z by omega)
  rw [e, Int.natAbs_natCast]
  rfl
set_option maxHeartbeats 1600000 in
theorem rsh {w : World} {p q : Nat} {z : Int} {n : Nat} (hp : Blk w p) (hz : Z w q z) (h1 : bl z.natAbs ≤ 268435456) (h2 : n ≤ 268435456) :
    Calls Try.prog 170 #[.pointer (some ⟨p, 0, none⟩), .pointer (some ⟨q, 0, none⟩), .int .u64 n] w (Puts w p (z / 2 ^ n)) := by
  obtain ⟨A, c, k0, k1, hm, hq⟩ := Z.open hz
  by_cases hn : z < 0
  · have b1 := bl_mono (Nat.sub_le z.natAbs 1)
    have b2 := bl_mono (Nat.div_le_self (z.natAbs - 1) (2 ^ n))
    have b3 := bl_add_le ((z.natAbs - 1) / 2 ^ n) 1
    have b4 : bl 1 = 1 := rfl
    have hS := fun (W : World) (hb : Below w.heap.size w W) => (cSub ((hm.below hb).below (below_alloc W _)) (Mg_one (w := W)) (by omega) (by omega)).mono fun e w' h => GivesMg.of (below_then hb (below_alloc W _)) h
    have hR := fun (W : World) (A' : Option Addr) (c' : Nat) (hb : Below w.heap.size w W) (hm' : Mg W A' c' (D (z.natAbs - 1))) => (cRight hm' (n := n) (by omega) (by omega)).mono fun e w' h => GivesMg.of hb h
    have hA := fun (W : World) (A' : Option Addr) (c' : Nat) (hb : Below w.heap.size w W) (hm' : Mg W A' c' (D ((z.natAbs - 1) / 2 ^ n))) => (cAdd (hm'.below (below_alloc W _)) (Mg_one (w := W)) (by omega) (by omega)).mono fun e w' h => GivesMg.of (below_then hb (below_alloc W _)) h
    have hP := fun (w1 : World) (A' : Option Addr) (c' : Nat) h1 h2 => put_of (w1 := w1) (A := A') (c := c') (neg := true) (n := (z.natAbs - 1) / 2 ^ n + 1) hp h1 h2 (by omega)
    simp only [if_true] at hP
    rw [shr_neg hn] at hP
    rw [show decide (z < 0) = true by simpa using hn] at k0
    have l1 : (D 1).length = 1 := by rw [D_one]; rfl
    rw [l1] at hS hA
    have HS := Lib.hid hS
    have HR := Lib.hid hR
    have HA := Lib.hid hA
    have HP := Lib.hid hP
    clear hS hR hA hP b1 b2 b3 b4 h1 h2 hm hp hz hn l1
    go_enter Try.func170, Try.ntmps170
    go_wp2_with fail
    refine (HS.out _ (Below.refl _ _)).mono ?_
    rintro e w1 ⟨A1, c1, rfl, hm1, hb1⟩
    have HR1 := Lib.hid (HR.out w1 A1 c1 hb1 hm1)
    clear hm1 hb1
    go_wp2_with fail
    refine HR1.out.mono ?_
    rintro e w2 ⟨A2, c2, rfl, hm2, hb2⟩
    have HA1 := Lib.hid (HA.out w2 A2 c2 hb2 hm2)
    clear hm2 hb2
    go_wp2_with fail
    refine HA1.out.mono ?_
    rintro e w3 ⟨A3, c3, rfl, hm3, hb3⟩
    have HP1 := Lib.hid (HP.out w3 A3 c3 hb3 hm3)
    clear hm3 hb3
    go_wp2_with fail
    refine HP1.out.mono ?_
    rintro e w4 ⟨rfl, hz2, hg2⟩
    have HE := Lib.hid (show Puts w p (z / 2 ^ n) _ w4 from ⟨rfl, hz2, hg2⟩)
    clear hz2 hg2
    go_wp2
    go_ret
    exact HE.out
  · have b2 := bl_mono (Nat.div_le_self z.natAbs (2 ^ n))
    have hR := fun (W : World) (hb : Below w.heap.size w W) => (cRight (hm.below hb) (n := n) (by omega) (by omega)).mono fun e w' h => GivesMg.of hb h
    have hP := fun (w1 : World) (A' : Option Addr) (c' : Nat) h1 h2 => put_of (w1 := w1) (A := A') (c := c') (neg := false) (n := z.natAbs / 2 ^ n) hp h1 h2 (by omega)
    simp only [Bool.false_eq_true, if_false] at hP
    rw [shr_pos hn] at hP
    rw [show decide (z < 0) = false by simpa using hn] at k0
    have HR := Lib.hid hR
    have HP := Lib.hid hP
    clear hR hP b2 h1 h2 hm hp hz hn
    go_enter Try.func170, Try.ntmps170
    go_wp2_with fail
    refine (HR.out _ (Below.refl _ _)).mono ?_
    rintro e w1 ⟨A1, c1, rfl, hm1, hb1⟩
    have HP1 := Lib.hid (HP.out w1 A1 c1 hb1 hm1)
    clear hm1 hb1
    go_wp2_with fail
    refine HP1.out.mono ?_
    rintro e w4 ⟨rfl, hz2, hg2⟩
    have HE := Lib.hid (show Puts w p (z / 2 ^ n) _ w4 from ⟨rfl, hz2, hg2⟩)
    clear hz2 hg2
    go_wp2
    go_ret
    exact HE.out
def shf (z k : Int) : Int := if 0 ≤ k then z * 2 ^ k.toNat else z / 2 ^ (-k).toNat
set_option maxHeartbeats 800000 in
theorem shifted {w : World} {q : Nat} {z k : Int} (hz : Z w q z) (h1 : bl z.natAbs ≤ 134217728) (h2 : -134217728 ≤ k) (h3 : k ≤ 134217728) :
    Calls Try.prog 148 #[.pointer (some ⟨q, 0, none⟩), .int .i64 k] w (News w (shf z k)) := by
  by_cases hk : 0 ≤ k
  · have hL := lsh (p := w.heap.size) (n := k.toNat) (Z.new w).blk (hz.below (below_alloc w _)) (by omega) (by omega)
    rw [show ((k.toNat : Nat) : Int) = k by omega] at hL
    have e : shf z k = z * 2 ^ k.toNat := by unfold shf; rw [if_pos hk]
    rw [e]
    clear e
    have HL := Lib.hid hL
    clear hL hz h1
    go_enter Try.func148, Try.ntmps148
    go_wp2_with fail
    refine HL.out.mono ?_
    intro e w1 hp
    have hN := Lib.hid (Mc.Puts.news hp)
    obtain ⟨rfl, hz, hg⟩ := hp
    clear hz hg
    go_wp2
    go_ret
    exact hN.out
  · have hL := rsh (p := w.heap.size) (n := (-k).toNat) (Z.new w).blk (hz.below (below_alloc w _)) (by omega) (by omega)
    rw [show (((-k).toNat : Nat) : Int) = -k by omega] at hL
    have e : shf z k = z / 2 ^ (-k).toNat := by unfold shf; rw [if_neg hk]
    rw [e]
    clear e
    have HL := Lib.hid hL
    clear hL hz h1
    go_enter Try.func148, Try.ntmps148
    go_wp2_with fail
    refine HL.out.mono ?_
    intro e w1 hp
    have hN := Lib.hid (Mc.Puts.news hp)
    obtain ⟨rfl, hz, hg⟩ := hp
    clear hz hg
    go_wp2
    go_ret
    exact hN.out
end Go.Proofs.Ytdboepiobaehkaa.Mk
end
section
namespace Go.Proofs.Ytdboepiobaehkaa.Ml
end Go.Proofs.Ytdboepiobaehkaa.Ml
end
section
set_option linter.unusedVariables false
set_option linter.unusedSimpArgs false
namespace Go.Proofs.Ytdboepiobaehkaa.Mn
open Go.RowKit Go.Proofs.YtdboepiobaehkaaW.PrintWords Go.Proofs.YtdboepiobaehkaaW.PrintLast Go.Proofs.YtdboepiobaehkaaW.PrintMore Go.Proofs.Ytdboepiobaehkaa.PW Go.Proofs.Ytdboepiobaehkaa.Pc Go.Proofs.Ytdboepiobaehkaa.Ma Go.Proofs.Ytdboepiobaehkaa.Mb Go.Proofs.Ytdboepiobaehkaa.Mc Go.Proofs.Ytdboepiobaehkaa.Md Go.Proofs.Ytdboepiobaehkaa.Me Go.Proofs.Ytdboepiobaehkaa.Mi Go.Proofs.Ytdboepiobaehkaa.Mj Go.Proofs.Ytdboepiobaehkaa.Mk Go.Proofs.Ytdboepiobaehkaa.Ml Dg
open Pm (sgn)
def ZF (w : World) (p : Nat) (z : Int) (v : Value) : Prop :=
  ∃ A c, w.heap[p]? = some (.cells #[.bool (decide (z < 0)), .slice A (D z.natAbs).length c] 111 (0, 0)) ∧ Mg w A c (D z.natAbs) ∧ ∀ ad, A = some ad → 0 < (D z.natAbs).length → some ad.block ≠ v.ownBlock
section
variable {w w1 : World} {p : Nat} {n : Int} {v v1 : Value}
theorem ZF.zz (h : ZF w p n v) : Z w p n := by
  obtain ⟨A, c, hb, hm, _⟩ := h
  exact ⟨A, c, hb, hm⟩
theorem ZF.of (h : Z w p n) : ZF w p n (.slice none 0 0) := by
  obtain ⟨A, c, hb, hm⟩ := h
  exact ⟨A, c, hb, hm, fun ad _ _ e => by simp [Value.ownBlock] at e⟩
theorem ZF.below (h : ZF w p n v) (hb : Below w.heap.size w w1) : ZF w1 p n v := by
  obtain ⟨A, c, h1, hm, hv⟩ := h
  exact ⟨A, c, (hb.block p (Array.getElem?_eq_some_iff.1 h1).1).trans h1, hm.below hb, hv⟩
theorem ZF.grown {q : Nat} (h : ZF w p n v) (hg : w.grownBy w1 (some q)) (hq : Blk w q) (hne : p ≠ q) : ZF w1 p n v := by
  obtain ⟨A, c, hb, hm, hv⟩ := h
  exact ⟨A, c, (hg.block p (Array.getElem?_eq_some_iff.1 hb).1 (by simpa using hne)).trans hb, hm.grown hg hq, hv⟩
theorem add_block (a : Addr) (k : Nat) : (a.add k).block = a.block := by
  unfold Addr.add
  split <;> rfl
theorem Mg.kept_at {A : Option Addr} {c : Nat} {xs : List Int} (h : Mg w A c xs) (hk : ∀ ad, A = some ad → 0 < xs.length → w1.heap[ad.block]? = w.heap[ad.block]?) : Mg w1 A c xs := by
  refine ⟨?_, h.2⟩
  obtain ⟨h1, h2, h3⟩ := h.1
  refine ⟨h1, h2, fun hn => ?_⟩
  obtain ⟨ad, hA, hc⟩ := h3 hn
  refine ⟨ad, hA, fun j p hp => ?_⟩
  obtain ⟨cs, hs, hR, hcell⟩ := hc j p hp
  refine ⟨cs, hs, hR, fun i u hu => ?_⟩
  rw [← hcell i u hu]
  exact World.cell?_of_block (w := w) (w' := w1) (a := ad.add (j * (Kd.int IntKind.u32).sz + i)) (by rw [add_block]; exact hk ad hA hn)
theorem Mg.lt {A : Option Addr} {c : Nat} {xs : List Int} (h : Mg w A c xs) (ad : Addr) (hA : A = some ad) (hn : 0 < xs.length) : ad.block < w.heap.size := by
  subst hA
  exact Kd.C_lt h.1 hn (by decide)
theorem ZF.after (h : ZF w p n v) (hpv : some p ≠ v.ownBlock) (hg : w.grownBy w1 v.ownBlock) (hat : v1.ownBlock = v.ownBlock ∨ ∃ b, v1.ownBlock = some b ∧ w.heap.size ≤ b) : ZF w1 p n v1 := by
  obtain ⟨A, c, hb, hm, hv⟩ := h
  refine ⟨A, c, (hg.block p (Array.getElem?_eq_some_iff.1 hb).1 hpv).trans hb, Mg.kept_at hm fun ad hA hn => hg.block _ (Mn.Mg.lt hm ad hA hn) (hv ad hA hn), fun ad hA hn => ?_⟩
  rcases hat with e | ⟨b, e, hle⟩
  · rw [e]; exact hv ad hA hn
  · rw [e]
    intro e2
    injection e2 with e2
    have := Mn.Mg.lt hm ad hA hn
    omega
theorem ZF.store {gw : Nat} {cs : Array Value} (h : ZF w p n v) (hw : w.heap[gw]? = some (.cells cs 29 (0, 0))) (hc : cs.size = 2) (h0 : ∀ x, cs[0]? ≠ some (.int .u32 x)) (h1 : ∀ x, cs[1]? ≠ some (.int .u32 x)) (i : Nat) (u : Value) : ZF (w.setCell ⟨gw, i, none⟩ u) p n v := by
  obtain ⟨A, c, hb, hm, hv⟩ := h
  have hne : p ≠ gw := by
    rintro rfl
    rw [hb] at hw
    injection hw with hw
    injection hw with _ hw
    exact absurd hw (by decide)
  refine ⟨A, c, (Below.heap_setCell _ _ _ _ hne).trans hb, Mg.kept_at hm fun ad hA hn => Below.heap_setCell _ _ _ _ ?_, hv⟩
  intro e
  have e : ad.block = gw := e
  obtain ⟨ad', hA', hc'⟩ := hm.1.2.2 hn
  rw [hA] at hA'
  injection hA' with hA'
  subst hA'
  obtain ⟨cs', hs, hR, hcell⟩ := hc' 0 _ (List.getElem?_eq_getElem hn)
  have hR' : cs' = [.int .u32 (D n.natAbs)[0]] := hR
  subst hR'
  have h4 := hcell 0 _ rfl
  rw [← e] at hw
  simp only [World.cell?, add_block, hw] at h4
  split at h4
  · cases h4
  · generalize (ad.add (0 * (Kd.int IntKind.u32).sz + 0)).off = o at h4
    match o, h4 with
    | 0, h4 => exact h0 _ h4
    | 1, h4 => exact h1 _ h4
    | n + 2, h4 =>
      rw [Array.getElem?_eq_none (by omega)] at h4
      cases h4
end
def PutsF (N : Nat) (w : World) (p : Nat) (z : Int) (e : Ending) (w' : World) : Prop :=
  Puts w p z e w' ∧ ∀ A n c, w'.cell? ⟨p, 1, none⟩ = some (.slice A n c) → ∀ ad, A = some ad → 0 < n → N ≤ ad.block
def St (w wr : World) (gw gr gm : Nat) (s : Int) (m k : Nat) (v : Value) (pre : List Int) : Prop :=
  wr.heap[gw]? = some (.cells #[.int .i64 s, v] 29 (0, 0)) ∧ Kd.R (Kd.int .i64) 2 wr w.heap.size (fun _ => True) v pre ∧ ZF wr gr (k : Int) v ∧ ZF wr gm 16777215 v ∧ Below w.heap.size w wr ∧ pre ++ L k = L m
section
variable {w wr w1 : World} {gw gr gm m k : Nat} {s : Int} {v v1 : Value} {pre : List Int}
theorem St.cell (h : St w wr gw gr gm s m k v pre) : wr.cell? ⟨gw, 1, none⟩ = some v := blk_cell h.1 1
theorem St.lt (h : St w wr gw gr gm s m k v pre) : gw < wr.heap.size := by
  have := h.1
  rw [Array.getElem?_eq_some_iff] at this
  exact this.1
theorem St.below (h : St w wr gw gr gm s m k v pre) (hb : Below wr.heap.size wr w1) : St w w1 gw gr gm s m k v pre :=
  ⟨(hb.block gw h.lt).trans h.1, Kd.R_below h.2.1 hb, h.2.2.1.below hb, h.2.2.2.1.below hb, below_then h.2.2.2.2.1 hb, h.2.2.2.2.2⟩
theorem ne_types {g p : Nat} {cs : Array Value} {t : TypeId} (h : wr.heap[g]? = some (.cells cs t (0, 0))) (hp : Blk wr p) (ht : t ≠ 111) : g ≠ p := by
  rintro rfl
  obtain ⟨b, A, n, c, hc⟩ := hp
  rw [h] at hc
  injection hc with hc
  injection hc with _ hc
  exact ht hc
theorem St.rest {k' : Nat} {e : Ending} (h : St w wr gw gr gm s m k v pre) (hp : PutsF wr.heap.size wr gr (k' : Int) e w1) (hne : gm ≠ gr) (hgr : w.heap.size ≤ gr) (he : pre ++ L k' = L m) : St w w1 gw gr gm s m k' v pre := by
  obtain ⟨⟨_, hz, hg⟩, hf⟩ := hp
  have hb := h.2.2.1.zz.blk
  refine ⟨(hg.block gw h.lt (by have := ne_types h.1 hb (by decide); simpa using this)).trans h.1, ?_, ?_, h.2.2.2.1.grown hg hb hne, below_grown h.2.2.2.2.1 hg hgr, he⟩
  · obtain ⟨b, A, n, c, hc⟩ := hb
    exact Kd.R_mono (Kd.R_grown (Kd.R_types h.2.1 hc (by decide)) hg (fun k hk => by have := hk.2; simpa using this)) (fun _ hk => hk.1)
  · obtain ⟨A, c, hzb, hm⟩ := hz
    refine ⟨A, c, hzb, hm, fun ad hA hn ho => ?_⟩
    have h1 := hf _ _ _ (blk_cell hzb 1) ad hA hn
    have h2 := Kd.R_lt h.2.1 _ ho.symm
    omega
theorem St.put {wr1 : World} {p : Int} {k' : Nat} (h : St w wr gw gr gm s m k v pre) (ho : Kd.R (Kd.int .i64) 2 wr1 w.heap.size (fun _ => True) v1 (pre ++ [p])) (hg : wr.grownBy wr1 v.ownBlock) (hat : v1.ownBlock = v.ownBlock ∨ ∃ b, v1.ownBlock = some b ∧ wr.heap.size ≤ b) (hb : Below w.heap.size w wr1) (hgw : w.heap.size ≤ gw) :
    wr1.frozen? ⟨gw, 1, none⟩ = false ∧ (wr1.setCell ⟨gw, 1, none⟩ v1).heap[gw]? = some (.cells #[.int .i64 s, v1] 29 (0, 0)) ∧ Kd.R (Kd.int .i64) 2 (wr1.setCell ⟨gw, 1, none⟩ v1) w.heap.size (fun _ => True) v1 (pre ++ [p]) ∧ ZF (wr1.setCell ⟨gw, 1, none⟩ v1) gr (k : Int) v1 ∧ ZF (wr1.setCell ⟨gw, 1, none⟩ v1) gm 16777215 v1 ∧ Below w.heap.size w (wr1.setCell ⟨gw, 1, none⟩ v1) := by
  have hgw1 : wr1.heap[gw]? = some (.cells #[.int .i64 s, v] 29 (0, 0)) := (hg.block gw h.lt (Kd.R_ne h.2.1 h.1 (by decide))).trans h.1
  obtain ⟨A, c, hv⟩ := Kd.R_slice h.2.1
  refine ⟨blk_frozen hgw1 1, blk_set hgw1 1 v1, Kd.R_set ho hgw1 (by decide) 1 v1, ?_, ?_, hb.setCell hgw _⟩
  · obtain ⟨b, B, n, d, hc⟩ := h.2.2.1.zz.blk
    exact (h.2.2.1.after (Kd.R_ne h.2.1 hc (by decide)) hg hat).store hgw1 rfl (by simp) (by subst hv; simp) 1 v1
  · obtain ⟨b, B, n, d, hc⟩ := h.2.2.2.1.zz.blk
    exact (h.2.2.2.1.after (Kd.R_ne h.2.1 hc (by decide)) hg hat).store hgw1 rfl (by simp) (by subst hv; simp) 1 v1
def Sr (w wr : World) (gw gr gm : Nat) (s : Int) (m k : Nat) (v : Value) (pre : List Int) : Prop :=
  St w wr gw gr gm s m k v pre ∧ wr.heap[w.heap.size]? = some (.cells #[.int .i64 0, .slice none 0 0] 29 (0, 0))
theorem Sr.lt (h : Sr w wr gw gr gm s m k v pre) : w.heap.size < wr.heap.size := (Array.getElem?_eq_some_iff.1 h.2).1
theorem Sr.below (h : Sr w wr gw gr gm s m k v pre) (hb : Below wr.heap.size wr w1) : Sr w w1 gw gr gm s m k v pre :=
  ⟨h.1.below hb, (hb.block _ h.lt).trans h.2⟩
theorem Sr.rest {k' : Nat} {e : Ending} (h : Sr w wr gw gr gm s m k v pre) (hp : PutsF wr.heap.size wr gr (k' : Int) e w1) (hne : gm ≠ gr) (hgr : w.heap.size < gr) (he : pre ++ L k' = L m) : Sr w w1 gw gr gm s m k' v pre :=
  ⟨h.1.rest hp hne (by omega) he, (hp.1.2.2.block _ h.lt (by simp; omega)).trans h.2⟩
def Sm (w wr : World) (gw gr gm : Nat) (s : Int) (k : Nat) (v : Value) (pre : List Int) : Prop :=
  wr.heap[gw]? = some (.cells #[.int .i64 s, v] 29 (0, 0)) ∧ Kd.R (Kd.int .i64) 2 wr w.heap.size (fun _ => True) v pre ∧ ZF wr gr (k : Int) v ∧ ZF wr gm 16777215 v ∧ Below w.heap.size w wr ∧ wr.heap[w.heap.size]? = some (.cells #[.int .i64 0, .slice none 0 0] 29 (0, 0))
theorem Sr.put {wr1 : World} {p : Int} (h : Sr w wr gw gr gm s m k v pre) (ho : Kd.R (Kd.int .i64) 2 wr1 w.heap.size (fun _ => True) v1 (pre ++ [p])) (hg : wr.grownBy wr1 v.ownBlock) (hat : v1.ownBlock = v.ownBlock ∨ ∃ b, v1.ownBlock = some b ∧ wr.heap.size ≤ b) (hb : Below w.heap.size w wr1) (hgw : w.heap.size < gw) :
    wr1.frozen? ⟨gw, 1, none⟩ = false ∧ (∃ u, wr1.cell? ⟨gw, 1, none⟩ = some u) ∧ Sm w (wr1.setCell ⟨gw, 1, none⟩ v1) gw gr gm s k v1 (pre ++ [p]) := by
  obtain ⟨h1, h2, h3, h4, h5, h6⟩ := h.1.put (k' := 0) ho hg hat hb (by omega)
  refine ⟨h1, ?_, h2, h3, h4, h5, h6, ?_⟩
  · have hgw1 : wr1.heap[gw]? = some (.cells #[.int .i64 s, v] 29 (0, 0)) := (hg.block gw h.1.lt (Kd.R_ne h.1.2.1 h.1.1 (by decide))).trans h.1.1
    exact ⟨_, blk_cell hgw1 1⟩
  · refine (Below.heap_setCell _ _ _ _ (by show w.heap.size ≠ gw; omega)).trans ?_
    exact (hg.block _ h.lt (Kd.R_ne h.1.2.1 h.2 (by decide))).trans h.2
theorem Sm.rest {k' : Nat} {e : Ending} (h : Sm w wr gw gr gm s k v pre) (hp : PutsF wr.heap.size wr gr (k' : Int) e w1) (hne : gm ≠ gr) (hgr : w.heap.size < gr) (he : pre ++ L k' = L m) : Sr w w1 gw gr gm s m k' v pre := by
  obtain ⟨h2, h3, h4, h5, h6, h7⟩ := h
  have hlt : w.heap.size < wr.heap.size := (Array.getElem?_eq_some_iff.1 h7).1
  have hltg : gw < wr.heap.size := (Array.getElem?_eq_some_iff.1 h2).1
  obtain ⟨⟨_, hz, hg⟩, hf⟩ := hp
  have hb := h4.zz.blk
  refine ⟨⟨(hg.block gw hltg (by have := ne_types h2 hb (by decide); simpa using this)).trans h2, ?_, ?_, h5.grown hg hb hne, below_grown h6 hg (by omega), he⟩, (hg.block _ hlt (by simp; omega)).trans h7⟩
  · obtain ⟨b, A, n, c, hc⟩ := hb
    exact Kd.R_mono (Kd.R_grown (Kd.R_types h3 hc (by decide)) hg (fun k hk => by have := hk.2; simpa using this)) (fun _ hk => hk.1)
  · obtain ⟨A, c, hzb, hm⟩ := hz
    refine ⟨A, c, hzb, hm, fun ad hA hn ho => ?_⟩
    have h1 := hf _ _ _ (blk_cell hzb 1) ad hA hn
    have h2 := Kd.R_lt h3 _ ho.symm
    omega
end
end Go.Proofs.Ytdboepiobaehkaa.Mn
end
section
namespace Go.Proofs.Ytdboepiobaehkaa.Mo
end Go.Proofs.Ytdboepiobaehkaa.Mo
end
section
namespace Go.Proofs.Ytdboepiobaehkaa.Mq
end Go.Proofs.Ytdboepiobaehkaa.Mq
end
section
set_option linter.unusedVariables false
set_option linter.unusedSimpArgs false
namespace Go.Proofs.Ytdboepiobaehkaa.Mr
open Go.RowKit Go.Proofs.YtdboepiobaehkaaW.PrintWords Go.Proofs.Ytdboepiobaehkaa.PW Go.Proofs.Ytdboepiobaehkaa.Pc Go.Proofs.Ytdboepiobaehkaa.Pb Go.Proofs.Ytdboepiobaehkaa.Pw Go.Proofs.Ytdboepiobaehkaa.Ma Go.Proofs.Ytdboepiobaehkaa.Mb Go.Proofs.Ytdboepiobaehkaa.Mc Go.Proofs.Ytdboepiobaehkaa.Md Go.Proofs.Ytdboepiobaehkaa.Me Go.Proofs.Ytdboepiobaehkaa.Mg Go.Proofs.Ytdboepiobaehkaa.Mh Go.Proofs.Ytdboepiobaehkaa.Mq Dg
def both (s0 : Int) (l0 : List Int) (s1 : Int) (l1 : List Int) (z : Int) : Int × List Int × Int := if isW s0 l0 = true ∧ isW s1 l1 = true then fit z else (0, [], 1)
end Go.Proofs.Ytdboepiobaehkaa.Mr
end
section
set_option linter.unusedVariables false
set_option linter.unusedSimpArgs false
namespace Go.Proofs.Ytdboepiobaehkaa.Mu
open Go.RowKit Go.Proofs.YtdboepiobaehkaaW.PrintWords Go.Proofs.Ytdboepiobaehkaa.PW Go.Proofs.Ytdboepiobaehkaa.Pc Go.Proofs.Ytdboepiobaehkaa.Pb Go.Proofs.Ytdboepiobaehkaa.Pw Go.Proofs.Ytdboepiobaehkaa.Ma Go.Proofs.Ytdboepiobaehkaa.Mb Go.Proofs.Ytdboepiobaehkaa.Mc Go.Proofs.Ytdboepiobaehkaa.Md Go.Proofs.Ytdboepiobaehkaa.Me Go.Proofs.Ytdboepiobaehkaa.Mg Go.Proofs.Ytdboepiobaehkaa.Mh Go.Proofs.Ytdboepiobaehkaa.Mq Go.Proofs.Ytdboepiobaehkaa.Mr Dg
theorem bl_add_natAbs (x y : Int) : bl (x + y).natAbs ≤ max (bl x.natAbs) (bl y.natAbs) + 1 :=
  Nat.le_trans (bl_mono (Int.natAbs_add_le x y)) (bl_add_le _ _)
theorem alloc_size (w : World) (o : Obj) : (w.alloc o).heap.size = w.heap.size + 1 := by simp
theorem below_put {B q : Nat} {w w1 w2 : World} (h : Below B w w1) (k : w1.grownBy w2 (some q)) (hq : B ≤ q) (hw1 : B ≤ w1.heap.size) : Below B w w2 :=
  h.trans ⟨k.os, k.tape, k.output, k.size, fun i hi => k.block i (Nat.lt_of_lt_of_le hi hw1) (by simp; omega)⟩
theorem cellsOf {W : World} {g : Nat} (hg : W.heap[g]? = some (.cells #[.int .i64 0, .slice none 0 0] 29 (0, 0))) : W.cell? ⟨g, 0, none⟩ = some (.int .i64 0) ∧ W.cell? ⟨g, 1, none⟩ = some (.slice none 0 0) ∧ W.frozen? ⟨g, 0, none⟩ = false ∧ W.frozen? ⟨g, 1, none⟩ = false :=
  ⟨blk_cell hg 0, blk_cell hg 1, blk_frozen hg 0, blk_frozen hg 1⟩
end Go.Proofs.Ytdboepiobaehkaa.Mu
end
section
set_option linter.unusedVariables false
set_option linter.unusedSimpArgs false
namespace Go.Proofs.Ytdboepiobaehkaa.Na
open Go.RowKit Go.Proofs.YtdboepiobaehkaaW.PrintWords Go.Proofs.Ytdboepiobaehkaa.PW Go.Proofs.Ytdboepiobaehkaa.Pc Go.Proofs.Ytdboepiobaehkaa.Pb Go.Proofs.Ytdboepiobaehkaa.Pw Go.Proofs.Ytdboepiobaehkaa.Ma Go.Proofs.Ytdboepiobaehkaa.Mb Go.Proofs.Ytdboepiobaehkaa.Mc Go.Proofs.Ytdboepiobaehkaa.Md Go.Proofs.Ytdboepiobaehkaa.Me Go.Proofs.Ytdboepiobaehkaa.Mg Go.Proofs.Ytdboepiobaehkaa.Mh Go.Proofs.Ytdboepiobaehkaa.Mk Go.Proofs.Ytdboepiobaehkaa.Mn Go.Proofs.Ytdboepiobaehkaa.Mu Go.Proofs.Ytdboepiobaehkaa.Nb Dg
open Pm (sgn)
theorem sizeN : (Try.prog.info? 71).map (·.size) = some 2 := by kernel_rfl
theorem boxes1 (w : World) (o : Obj) : ∀ W, Below (w.heap.size + 1) (w.alloc o) W → Below w.heap.size w W ∧ W.heap[w.heap.size]? = some o ∧ w.heap.size + 1 ≤ W.heap.size := fun W hW =>
  ⟨(Ma.below_alloc w o).trans (hW.mono (by omega)), (hW.block _ (by omega)).trans (heap_alloc_new w o), by have := hW.size; rw [alloc_size] at this; exact this⟩
theorem boxes2 (w : World) (o o2 : Obj) : ∀ W, Below (w.heap.size + 2) ((w.alloc o).alloc o2) W → Below w.heap.size w W ∧ W.heap[w.heap.size]? = some o ∧ W.heap[w.heap.size + 1]? = some o2 ∧ w.heap.size + 2 ≤ W.heap.size := fun W hW => by
  have e := alloc_size w o
  have h := boxes1 (w.alloc o) o2 W (by rw [e]; exact hW)
  rw [e] at h
  exact ⟨(Ma.below_alloc w o).trans (h.1.mono (by omega)), (h.1.block _ (by omega)).trans (heap_alloc_new w o), h.2.1, h.2.2⟩
theorem boxes3 (w : World) (o o2 o3 : Obj) : ∀ W, Below (w.heap.size + 3) (((w.alloc o).alloc o2).alloc o3) W → Below w.heap.size w W ∧ W.heap[w.heap.size]? = some o ∧ W.heap[w.heap.size + 1]? = some o2 ∧ W.heap[w.heap.size + 1 + 1]? = some o3 ∧ w.heap.size + 3 ≤ W.heap.size := fun W hW => by
  have e := alloc_size w o
  have h := boxes2 (w.alloc o) o2 o3 W (by rw [e]; exact hW)
  rw [e] at h
  exact ⟨(Ma.below_alloc w o).trans (h.1.mono (by omega)), (h.1.block _ (by omega)).trans (heap_alloc_new w o), h.2.1, h.2.2.1, h.2.2.2⟩
theorem zset {w : World} {p gw t : Nat} {n : Int} {cs : Array Value} (h : Z w p n) (hw : w.heap[gw]? = some (.cells cs t (0, 0))) (ht : t ≠ 111) (hc : ∀ (i : Nat) (x : Int), cs[i]? ≠ some (Value.int .u32 x)) (i : Nat) (u : Value) : Z (w.setCell ⟨gw, i, none⟩ u) p n := by
  obtain ⟨A, c, hb, hm⟩ := h
  have hne : p ≠ gw := by
    rintro rfl
    rw [hb] at hw
    injection hw with hw
    injection hw with _ hw
    exact ht hw.symm
  refine ⟨A, c, (Below.heap_setCell _ _ _ _ hne).trans hb, Mn.Mg.kept_at hm fun ad hA hn => Below.heap_setCell _ _ _ _ ?_⟩
  intro e
  have e : ad.block = gw := e
  obtain ⟨ad', hA', hc'⟩ := hm.1.2.2 hn
  rw [hA] at hA'
  injection hA' with hA'
  subst hA'
  obtain ⟨cs', hs, hR, hcell⟩ := hc' 0 _ (List.getElem?_eq_getElem hn)
  have hR' : cs' = [.int .u32 (D n.natAbs)[0]] := hR
  subst hR'
  have h4 := hcell 0 _ rfl
  rw [← e] at hw
  simp only [World.cell?, Mn.add_block, hw] at h4
  split at h4
  · cases h4
  · exact hc _ _ h4
def GivesN (w : World) (z e : Int) (en : Ending) (w' : World) : Prop := ∃ g, en = .returned (.agg #[.pointer (some ⟨g, 0, none⟩), .int .i64 e]) ∧ Z w' g z ∧ Below w.heap.size w w'
theorem two_cells {u v : Value} (hu : ∀ x : Int, u ≠ Value.int .u32 x) (hv : ∀ x : Int, v ≠ Value.int .u32 x) : ∀ (i : Nat) (x : Int), (#[u, v] : Array Value)[i]? ≠ some (Value.int .u32 x) := by
  intro i x h
  match i, h with
  | 0, h => exact hu x (by simpa using h)
  | 1, h => exact hv x (by simpa using h)
  | n + 2, h => simp at h
theorem storedN {w W : World} {g q : Nat} {z e : Int} (hg : W.heap[g]? = some (.cells #[.pointer none, .int .i64 0] 71 (0, 0))) (hb : Below w.heap.size w W) (hw : w.heap.size ≤ g) (hz : Z W q z) :
    ((W.setCell ⟨g, 0, none⟩ (.pointer (some ⟨q, 0, none⟩))).setCell ⟨g, 1, none⟩ (.int .i64 e)).heap[g]? = some (.cells #[.pointer (some ⟨q, 0, none⟩), .int .i64 e] 71 (0, 0)) ∧ Z ((W.setCell ⟨g, 0, none⟩ (.pointer (some ⟨q, 0, none⟩))).setCell ⟨g, 1, none⟩ (.int .i64 e)) q z ∧ Below w.heap.size w ((W.setCell ⟨g, 0, none⟩ (.pointer (some ⟨q, 0, none⟩))).setCell ⟨g, 1, none⟩ (.int .i64 e)) :=
  ⟨blk_set (blk_set hg 0 _) 1 _, zset (zset hz hg (by decide) (two_cells (fun x => by simp) (fun x => by simp)) 0 _) (blk_set hg 0 (.pointer (some ⟨q, 0, none⟩))) (by decide) (two_cells (fun x => by simp) (fun x => by simp)) 1 _, (hb.setCell (p := ⟨g, 0, none⟩) hw _).setCell (p := ⟨g, 1, none⟩) hw _⟩
theorem cellsN {W : World} {g : Nat} {u v : Value} {t : Nat} (hg : W.heap[g]? = some (.cells #[u, v] t (0, 0))) : W.cell? ⟨g, 0, none⟩ = some u ∧ W.cell? ⟨g, 1, none⟩ = some v ∧ W.frozen? ⟨g, 0, none⟩ = false ∧ W.frozen? ⟨g, 1, none⟩ = false ∧ g < W.heap.size :=
  ⟨blk_cell hg 0, blk_cell hg 1, blk_frozen hg 0, blk_frozen hg 1, (Array.getElem?_eq_some_iff.1 hg).1⟩
theorem news_below {W0 W W2 : World} {p : Nat} (h : Below W0.heap.size W0 W) (hp : W0.heap.size ≤ p) (hg : W.grownBy W2 (some p)) : Below W0.heap.size W0 W2 := below_put h hg hp h.size
set_option maxHeartbeats 400000 in
theorem nsign {w : World} {q : Nat} {z e : Int} (hz : Z w q z) :
    Calls Try.prog 125 #[.agg #[.pointer (some ⟨q, 0, none⟩), .int .i64 e]] w fun en w' => en = .returned (.int .i64 (sgn z)) ∧ Below w.heap.size w w' := by
  have HS := Lib.hid (Me.sign (hz.below (Ma.below_alloc w (.cells #[.pointer (some ⟨q, 0, none⟩), .int .i64 e] 71))))
  clear hz
  go_enter Try.func125, Try.ntmps125
  go_wp2_with fail
  refine HS.out.mono ?_
  rintro en w1 ⟨rfl, rfl⟩
  go_wp2
  go_ret
  exact ⟨rfl, Ma.below_alloc _ _⟩
set_option maxHeartbeats 800000 in
theorem nneg {w : World} {q : Nat} {z e : Int} (hz : Z w q z) (h1 : bl z.natAbs ≤ 1073741823) :
    Calls Try.prog 98 #[.agg #[.pointer (some ⟨q, 0, none⟩), .int .i64 e]] w (GivesN w (-z) e) := by
  obtain ⟨W0, hW0⟩ : ∃ W0, W0 = (w.alloc (.cells #[.pointer (some ⟨q, 0, none⟩), .int .i64 e] 71)).alloc (.cells #[.pointer none, .int .i64 0] 71) := ⟨_, rfl⟩
  obtain ⟨hb0, hx0, hx1, hs0⟩ := boxes2 w (.cells #[.pointer (some ⟨q, 0, none⟩), .int .i64 e] 71) (.cells #[.pointer none, .int .i64 0] 71) W0 (by rw [hW0]; exact Below.refl _ _)
  have HN := Lib.hid (fun (W : World) (p : Nat) (hp : Blk W p) (hb : Below W0.heap.size W0 W) => Me.neg hp ((hz.below hb0).below hb) h1)
  have HB0 := Lib.hid hb0
  have HX0 := Lib.hid hx0
  have HX1 := Lib.hid hx1
  have HW := Lib.hid hW0
  obtain ⟨c0, c1, _, _, l0⟩ := cellsN hx0
  obtain ⟨d0, d1, f0, f1, l1⟩ := cellsN hx1
  clear hz hb0 hx0 hx1 hW0 h1
  go_enter Try.func98, Try.ntmps98
  go_wp2_with fail
  rw [← HW.out]
  clear HW
  go_region_held3 (fun w' => w'.cell? ⟨w.heap.size, 0, none⟩ = some (.pointer (some ⟨q, 0, none⟩)) ∧ w'.cell? ⟨w.heap.size, 1, none⟩ = some (.int .i64 e)) (go_keep)
    (first | (go_at_call 144; refine (HN.out _ _ (by first | exact (Z.new _).blk | exact (Z.new W0).blk.below (Below.refl _ _).drew) (by first | exact Ma.below_alloc _ _ | exact (Below.refl _ _).drew.alloc (Nat.le_refl _) _ | exact (Ma.below_alloc _ _).drew)).mono ?_; rintro en w2 ⟨rfl, hz2, hg2⟩; have hb2 := news_below (W0 := W0) (by first | exact Ma.below_alloc _ _ | exact (Below.refl _ _).drew.alloc (Nat.le_refl _) _ | exact (Ma.below_alloc _ _).drew) (Nat.le_refl _) hg2; have hx0 := (hb2.block _ l0).trans HX0.out; have hx1 := (hb2.block _ l1).trans HX1.out; obtain ⟨a0, a1, _, _, k0⟩ := cellsN hx0; obtain ⟨b0, b1, g0, g1, k1⟩ := cellsN hx1; have HX2 := Lib.hid hx1; have HB2 := Lib.hid (HB0.out.trans (hb2.mono (Nat.le_trans (by omega) hs0))); have HZ2 := Lib.hid hz2; clear hz2 hg2 hb2 hx0 hx1))
  all_goals go_wp2
  all_goals
    have hst := storedN (e := e) HX2.out HB2.out (by omega) HZ2.out
    exact bodyPost_ret (results_single rfl (.cell (w.heap.size + 1) 71 #[.pointer (some ⟨W0.heap.size, 0, none⟩), .int .i64 e] (0, 0) _ rfl hst.1 Try.underlying71 rfl sizeN .nil)) rfl ⟨_, rfl, hst.2.1, hst.2.2⟩
end Go.Proofs.Ytdboepiobaehkaa.Na
end
section
set_option linter.unusedVariables false
set_option linter.unusedSimpArgs false
namespace Go.Proofs.Ytdboepiobaehkaa.Nd
open Go.RowKit Go.Proofs.YtdboepiobaehkaaW.PrintWords Go.Proofs.Ytdboepiobaehkaa.PW Go.Proofs.Ytdboepiobaehkaa.Pc Go.Proofs.Ytdboepiobaehkaa.Pb Go.Proofs.Ytdboepiobaehkaa.Pw Go.Proofs.Ytdboepiobaehkaa.Ma Go.Proofs.Ytdboepiobaehkaa.Mb Go.Proofs.Ytdboepiobaehkaa.Mc Go.Proofs.Ytdboepiobaehkaa.Md Go.Proofs.Ytdboepiobaehkaa.Me Go.Proofs.Ytdboepiobaehkaa.Mg Go.Proofs.Ytdboepiobaehkaa.Mh Go.Proofs.Ytdboepiobaehkaa.Mk Go.Proofs.Ytdboepiobaehkaa.Mn Go.Proofs.Ytdboepiobaehkaa.Mo Go.Proofs.Ytdboepiobaehkaa.Mu Go.Proofs.Ytdboepiobaehkaa.Na Go.Proofs.Ytdboepiobaehkaa.Nb Dg
open Pm (sgn)
theorem sgn_eq0 {z : Int} : (sgn z = 0) = (z = 0) := by
  apply propext
  unfold Pm.sgn
  split
  · omega
  · split <;> omega
theorem cellsD {W : World} {g : Nat} {u v x : Value} {t : Nat} (hg : W.heap[g]? = some (.cells #[u, v, x] t (0, 0))) : W.cell? ⟨g, 0, none⟩ = some u ∧ W.cell? ⟨g, 1, none⟩ = some v ∧ W.cell? ⟨g, 2, none⟩ = some x ∧ W.frozen? ⟨g, 0, none⟩ = false ∧ W.frozen? ⟨g, 1, none⟩ = false ∧ W.frozen? ⟨g, 2, none⟩ = false ∧ g < W.heap.size :=
  ⟨blk_cell hg 0, blk_cell hg 1, blk_cell hg 2, blk_frozen hg 0, blk_frozen hg 1, blk_frozen hg 2, (Array.getElem?_eq_some_iff.1 hg).1⟩
set_option maxHeartbeats 800000 in
theorem numberOf {w : World} {s e : Int} {A : Option Addr} {c : Nat} {l : List Int} (hC : (Kd.int .i64).C w A l.length l) (h : isW s l = true) :
    Calls Try.prog 89 #[.agg #[.int .i64 s, .slice A l.length c, .int .i64 e]] w (GivesN w (wv s l) e) := by
  obtain ⟨W0, hW0⟩ : ∃ W0, W0 = (w.alloc (.cells #[.int .i64 s, .slice A l.length c, .int .i64 e] 31)).alloc (.cells #[.pointer none, .int .i64 0] 71) := ⟨_, rfl⟩
  obtain ⟨hb0, hx0, hx1, hs0⟩ := boxes2 w (.cells #[.int .i64 s, .slice A l.length c, .int .i64 e] 31) (.cells #[.pointer none, .int .i64 0] 71) W0 (by rw [hW0]; exact Below.refl _ _)
  have HN := Lib.hid (fun (W : World) (hb : Below W0.heap.size W0 W) => cBig (c := c) (C_at (C_at hC hb0) hb) h)
  have HB0 := Lib.hid hb0
  have HX0 := Lib.hid hx0
  have HX1 := Lib.hid hx1
  have HW := Lib.hid hW0
  obtain ⟨c0, c1, c2, _, _, _, l0⟩ := cellsD hx0
  obtain ⟨d0, d1, f0, f1, l1⟩ := cellsN hx1
  clear hC h hb0 hx0 hx1 hW0
  generalize l.length = n at *
  go_enter Try.func89, Try.ntmps89
  go_wp2_with fail
  rw [← HW.out]
  clear HW
  go_region_held3 (fun w' => w'.cell? ⟨w.heap.size, 0, none⟩ = some (.int .i64 s) ∧ w'.cell? ⟨w.heap.size, 1, none⟩ = some (.slice A n c) ∧ w'.cell? ⟨w.heap.size, 2, none⟩ = some (.int .i64 e)) (go_keep)
    (first | (go_at_call 84; refine (HN.out _ (by first | exact Below.refl _ _ | exact (Below.refl _ _).drew)).mono ?_; rintro en w2 ⟨g, rfl, hz2, hg2, hb'⟩; have hb2 := below_then (show Below W0.heap.size W0 _ by first | exact Below.refl _ _ | exact (Below.refl _ _).drew) hb'; have hx0 := (hb2.block _ l0).trans HX0.out; have hx1 := (hb2.block _ l1).trans HX1.out; obtain ⟨a0, a1, a2, _, _, _, k0⟩ := cellsD hx0; obtain ⟨b0, b1, g0, g1, k1⟩ := cellsN hx1; have HX2 := Lib.hid hx1; have HB2 := Lib.hid (HB0.out.trans (hb2.mono (Nat.le_trans (by omega) hs0))); have HZ2 := Lib.hid hz2; clear hz2 hg2 hb2 hb' hx0 hx1))
  all_goals go_wp2
  all_goals
    have hst := storedN (e := e) HX2.out HB2.out (by omega) HZ2.out
    exact bodyPost_ret (results_single rfl (.cell (w.heap.size + 1) 71 #[.pointer (some ⟨_, 0, none⟩), .int .i64 e] (0, 0) _ rfl hst.1 Try.underlying71 rfl sizeN .nil)) rfl ⟨_, rfl, hst.2.1, hst.2.2⟩
end Go.Proofs.Ytdboepiobaehkaa.Nd
end
section
namespace Go.Proofs.Ytdboepiobaehkaa.Nf
end Go.Proofs.Ytdboepiobaehkaa.Nf
end
section
set_option linter.unusedVariables false
set_option linter.unusedSimpArgs false
namespace Go.Proofs.Ytdboepiobaehkaa.Nc
open Go.RowKit Go.Proofs.YtdboepiobaehkaaW.PrintWords Go.Proofs.Ytdboepiobaehkaa.PW Go.Proofs.Ytdboepiobaehkaa.Pc Go.Proofs.Ytdboepiobaehkaa.Pb Go.Proofs.Ytdboepiobaehkaa.Pw Go.Proofs.Ytdboepiobaehkaa.Ma Go.Proofs.Ytdboepiobaehkaa.Mb Go.Proofs.Ytdboepiobaehkaa.Mc Go.Proofs.Ytdboepiobaehkaa.Md Go.Proofs.Ytdboepiobaehkaa.Me Go.Proofs.Ytdboepiobaehkaa.Mg Go.Proofs.Ytdboepiobaehkaa.Mh Go.Proofs.Ytdboepiobaehkaa.Mk Go.Proofs.Ytdboepiobaehkaa.Mn Go.Proofs.Ytdboepiobaehkaa.Mu Go.Proofs.Ytdboepiobaehkaa.Na Dg
open Pm (sgn)
theorem GivesN.of {w W w' : World} {z e : Int} {en : Ending} (hb : Below w.heap.size w W) (h : GivesN W z e en w') : GivesN w z e en w' := by
  obtain ⟨g, he, hz, hbl⟩ := h
  exact ⟨g, he, hz, below_then hb hbl⟩
set_option maxHeartbeats 800000 in
theorem nat {w : World} {q : Nat} {z e : Int} {k : Nat} {e2 : Int} (hz : Z w q z) (hk : e - e2 = (k : Int)) (h1 : bl z.natAbs ≤ 268435456) (h2 : k ≤ 268435456) :
    Calls Try.prog 153 #[.agg #[.pointer (some ⟨q, 0, none⟩), .int .i64 e], .int .i64 e2] w (News w (z * 2 ^ k)) := by
  obtain ⟨hb0, hx0, hs0⟩ := boxes1 w (.cells #[.pointer (some ⟨q, 0, none⟩), .int .i64 e] 71) (w.alloc (.cells #[.pointer (some ⟨q, 0, none⟩), .int .i64 e] 71)) (Below.refl _ _)
  obtain ⟨W0, hW0⟩ : ∃ W0, W0 = w.alloc (.cells #[.pointer (some ⟨q, 0, none⟩), .int .i64 e] 71) := ⟨_, rfl⟩
  rw [← hW0] at hb0 hx0 hs0
  have HL := Lib.hid (Md.lsh (n := k) (Z.new W0).blk ((hz.below hb0).below (Ma.below_alloc W0 _)) h1 h2)
  have hkw : IntKind.u64.wrap (wrap64 (e - e2)) = (k : Int) := by rw [hk, IntKind.wrap_u64]; unfold wrap64; omega
  have HKW := Lib.hid hkw
  have HB0 := Lib.hid hb0
  have HW := Lib.hid hW0
  obtain ⟨c0, c1, _, _, l0⟩ := cellsN hx0
  clear hz hb0 hx0 hW0 h1 hkw hk h2
  go_enter Try.func153, Try.ntmps153
  go_upto_region 1 with fail
  rw [← HW.out]
  clear HW
  go_wp2_with fail
  rw [HKW.out]
  refine HL.out.mono ?_
  intro en w1 hp
  have hN := Lib.hid (Mc.Puts.news hp)
  obtain ⟨rfl, hz, hg⟩ := hp
  clear hz hg
  go_wp2
  go_ret
  obtain ⟨g, he, hz, hle, hb⟩ := hN.out
  exact ⟨g, he, hz, Nat.le_trans (by omega) hle, below_then HB0.out hb⟩
def addz (x e y f : Int) : Int := if x = 0 then y else if y = 0 then x else x * 2 ^ (e - min e f).toNat + y * 2 ^ (f - min e f).toNat
def adde (x e y f : Int) : Int := if x = 0 then f else if y = 0 then e else min e f
theorem sgn_eq0 {z : Int} : (sgn z = 0) = (z = 0) := by
  apply propext
  unfold Pm.sgn
  split
  · omega
  · split <;> omega
set_option maxRecDepth 20000 in
set_option maxHeartbeats 3200000 in
theorem nadd {w : World} {q s : Nat} {x y e f : Int} (hx : Z w q x) (hy : Z w s y) (hbx : bl x.natAbs ≤ 100000000) (hby : bl y.natAbs ≤ 100000000) (h1 : -1000000 ≤ e) (h2 : e ≤ 1000000) (h3 : -1000000 ≤ f) (h4 : f ≤ 1000000) :
    Calls Try.prog 100 #[.agg #[.pointer (some ⟨q, 0, none⟩), .int .i64 e], .agg #[.pointer (some ⟨s, 0, none⟩), .int .i64 f]] w (GivesN w (addz x e y f) (adde x e y f)) := by
  obtain ⟨W0, hW0⟩ : ∃ W0, W0 = ((w.alloc (.cells #[.pointer (some ⟨q, 0, none⟩), .int .i64 e] 71)).alloc (.cells #[.pointer (some ⟨s, 0, none⟩), .int .i64 f] 71)).alloc (.cells #[.pointer none, .int .i64 0] 71) := ⟨_, rfl⟩
  obtain ⟨hb0, hx0, hy0, hx1, hs0⟩ := boxes3 w (.cells #[.pointer (some ⟨q, 0, none⟩), .int .i64 e] 71) (.cells #[.pointer (some ⟨s, 0, none⟩), .int .i64 f] 71) (.cells #[.pointer none, .int .i64 0] 71) W0 (by rw [hW0]; exact Below.refl _ _)
  have zx := hx.below hb0
  have zy := hy.below hb0
  have HS := Lib.hid (fun (W : World) (hb : Below W0.heap.size W0 W) => nsign (e := e) (zx.below hb))
  have HT := Lib.hid (fun (W : World) (hb : Below W0.heap.size W0 W) => nsign (e := f) (zy.below hb))
  have HB0 := Lib.hid hb0
  have HX0 := Lib.hid hx0
  have HY0 := Lib.hid hy0
  have HX1 := Lib.hid hx1
  have HW := Lib.hid hW0
  have HZX := Lib.hid zx
  have HZY := Lib.hid zy
  obtain ⟨c0, c1, _, _, l0⟩ := cellsN hx0
  obtain ⟨e0, e1, _, _, m0⟩ := cellsN hy0
  obtain ⟨d0, d1, f0, f1, l1⟩ := cellsN hx1
  have n0 : w.heap.size ≠ w.heap.size + 1 + 1 := by omega
  have n1 := Ne.symm n0
  -- what stays after a call that makes memory
  have stay := Lib.hid (fun (W : World) (hb : Below W0.heap.size W0 W) => (⟨cellsN ((hb.block _ l0).trans hx0), cellsN ((hb.block _ m0).trans hy0), cellsN ((hb.block _ l1).trans hx1), (hb.block _ l1).trans hx1, hb0.trans (hb.mono (Nat.le_trans (by omega) hs0))⟩ : _ ∧ _ ∧ _ ∧ _ ∧ Below w.heap.size w W))
  clear hx hy hb0 hx0 hx1 hy0 hW0 zx zy
  by_cases hx00 : x = 0
  · have es : sgn x = 0 := by rw [sgn_eq0]; exact hx00
    have ez : addz x e y f = y := by unfold addz; rw [if_pos hx00]
    have ee : adde x e y f = f := by unfold adde; rw [if_pos hx00]
    rw [ez, ee]
    rw [es] at HS
    clear es ez ee hx00
    go_enter Try.func100, Try.ntmps100
    go_upto_region 1 with fail
    rw [← HW.out]
    clear HW
    go_wp2_with fail
    refine (HS.out W0 (Below.refl _ _)).mono ?_
    rintro en w1 ⟨rfl, hb1⟩
    obtain ⟨⟨p0, p1, _, _, p2⟩, ⟨r0, r1, _, _, r2⟩, ⟨t0, t1, t2, t3, t4⟩, hx1, hbw⟩ := stay.out w1 hb1
    have HX2 := Lib.hid hx1
    have HB2 := Lib.hid hbw
    have HZ2 := Lib.hid (HZY.out.below hb1)
    clear hx1 hbw hb1
    go_wp2
    have hst := storedN (e := f) HX2.out HB2.out (by omega) HZ2.out
    exact bodyPost_ret (results_single rfl (.cell (w.heap.size + 1 + 1) 71 #[.pointer (some ⟨s, 0, none⟩), .int .i64 f] (0, 0) _ rfl hst.1 Try.underlying71 rfl sizeN .nil)) rfl ⟨_, rfl, hst.2.1, hst.2.2⟩
  · have es : ¬ sgn x = 0 := by rw [sgn_eq0]; exact hx00
    generalize sgn x = sx at HS es
    by_cases hy00 : y = 0
    · have et : sgn y = 0 := by rw [sgn_eq0]; exact hy00
      have ez : addz x e y f = x := by unfold addz; rw [if_neg hx00, if_pos hy00]
      have ee : adde x e y f = e := by unfold adde; rw [if_neg hx00, if_pos hy00]
      rw [ez, ee]
      rw [et] at HT
      clear et ez ee hx00 hy00
      go_enter Try.func100, Try.ntmps100
      go_upto_region 1 with fail
      rw [← HW.out]
      clear HW
      go_wp2_with fail
      refine (HS.out W0 (Below.refl _ _)).mono ?_
      rintro en w1 ⟨rfl, hb1⟩
      obtain ⟨⟨p0, p1, _, _, p2⟩, ⟨r0, r1, _, _, r2⟩, ⟨t0, t1, t2, t3, t4⟩, hx1, hbw⟩ := stay.out w1 hb1
      have HB1 := Lib.hid hb1
      clear hx1 hbw hb1
      go_wp2_with fail
      refine (HT.out w1 HB1.out).mono ?_
      rintro en w2 ⟨rfl, hb2⟩
      have hb12 := below_then HB1.out hb2
      clear p0 p1 p2 r0 r1 r2 t0 t1 t2 t3 t4 HB1 hb2
      obtain ⟨⟨p0, p1, _, _, p2⟩, ⟨r0, r1, _, _, r2⟩, ⟨t0, t1, t2, t3, t4⟩, hx1, hbw⟩ := stay.out w2 hb12
      have HX2 := Lib.hid hx1
      have HB2 := Lib.hid hbw
      have HZ2 := Lib.hid (HZX.out.below hb12)
      clear hx1 hbw hb12
      go_wp2
      have hst := storedN (e := e) HX2.out HB2.out (by omega) HZ2.out
      exact bodyPost_ret (results_single rfl (.cell (w.heap.size + 1 + 1) 71 #[.pointer (some ⟨q, 0, none⟩), .int .i64 e] (0, 0) _ rfl hst.1 Try.underlying71 rfl sizeN .nil)) rfl ⟨_, rfl, hst.2.1, hst.2.2⟩
    · have et : ¬ sgn y = 0 := by rw [sgn_eq0]; exact hy00
      generalize sgn y = sy at HT et
      have ez : addz x e y f = x * 2 ^ (e - min e f).toNat + y * 2 ^ (f - min e f).toNat := by unfold addz; rw [if_neg hx00, if_neg hy00]
      have ee : adde x e y f = min e f := by unfold adde; rw [if_neg hx00, if_neg hy00]
      rw [ez, ee]
      clear ez ee hx00 hy00
      obtain ⟨m, hm⟩ : ∃ m, m = min e f := ⟨_, rfl⟩
      obtain ⟨kx, hkx⟩ : ∃ k : Nat, k = (e - min e f).toNat := ⟨_, rfl⟩
      obtain ⟨ky, hky⟩ : ∃ k : Nat, k = (f - min e f).toNat := ⟨_, rfl⟩
      rw [← hkx, ← hky, ← hm]
      have bx : bl (x * 2 ^ kx).natAbs ≤ 200000000 := by
        rw [Int.natAbs_mul, show ((2 : Int) ^ kx).natAbs = 2 ^ kx by rw [Int.natAbs_pow]; rfl]
        have := bl_shift_le x.natAbs kx
        omega
      have by_ : bl (y * 2 ^ ky).natAbs ≤ 200000000 := by
        rw [Int.natAbs_mul, show ((2 : Int) ^ ky).natAbs = 2 ^ ky by rw [Int.natAbs_pow]; rfl]
        have := bl_shift_le y.natAbs ky
        omega
      have HA := Lib.hid (fun (W : World) (hb : Below W0.heap.size W0 W) => nat (e2 := m) (k := kx) (HZX.out.below hb) (e := e) (by omega) (by omega) (by omega))
      have HC := Lib.hid (fun (W : World) (hb : Below W0.heap.size W0 W) => nat (e2 := m) (k := ky) (HZY.out.below hb) (e := f) (by omega) (by omega) (by omega))
      have HP := Lib.hid (fun (W : World) (p g g4 : Nat) (hp : Blk W p) (hz : Z W g (x * 2 ^ kx)) (hz4 : Z W g4 (y * 2 ^ ky)) => Mj.add hp hz hz4 (by omega) (by omega))
      have HM := Lib.hid hm
      have HKX := Lib.hid hkx
      have HKY := Lib.hid hky
      generalize x * 2 ^ kx = xx at *
      generalize y * 2 ^ ky = yy at *
      have hmin : min e f = m := hm.symm
      clear hm hkx hky bx by_ hbx hby
      have hle : (e ≤ f ∧ e = m) ∨ (f < e ∧ f = m) := by omega
      clear hmin
      rcases hle with ⟨hle, rfl⟩ | ⟨hle, rfl⟩
      all_goals
       go_enter Try.func100, Try.ntmps100
       go_upto_region 1 with fail
       rw [← HW.out]
       clear HW
       go_wp2_with fail
       refine (HS.out W0 (Below.refl _ _)).mono ?_
       rintro en w1 ⟨rfl, hb1⟩
       obtain ⟨⟨p0, p1, _, _, p2⟩, ⟨r0, r1, _, _, r2⟩, ⟨t0, t1, t2, t3, t4⟩, hx1, hbw⟩ := stay.out w1 hb1
       have HB1 := Lib.hid hb1
       clear hx1 hbw hb1
       go_wp2_with fail
       refine (HT.out w1 HB1.out).mono ?_
       rintro en w2 ⟨rfl, hb2⟩
       have hb12 := below_then HB1.out hb2
       clear p0 p1 p2 r0 r1 r2 t0 t1 t2 t3 t4 HB1 hb2
       obtain ⟨⟨p0, p1, _, _, p2⟩, ⟨r0, r1, _, _, r2⟩, ⟨t0, t1, t2, t3, t4⟩, hx1, hbw⟩ := stay.out w2 hb12
       have HB2 := Lib.hid hb12
       clear hx1 hbw hb12
       have hs2 := HB2.out.size
       go_wp2_with fail
       all_goals
         go_region_held3 (fun w' => w'.cell? ⟨w.heap.size, 0, none⟩ = some (.pointer (some ⟨q, 0, none⟩)) ∧ w'.cell? ⟨w.heap.size, 1, none⟩ = some (.int .i64 e) ∧ w'.cell? ⟨w.heap.size + 1, 0, none⟩ = some (.pointer (some ⟨s, 0, none⟩)) ∧ w'.cell? ⟨w.heap.size + 1, 1, none⟩ = some (.int .i64 f)) (go_keep)
           (first
             | (go_at_call 153; refine (HA.out _ (by first | exact HB2.out.drew | exact (HB2.out.alloc hs2 _).drew | exact HB2.out.drew.alloc hs2 _)).mono ?_; rintro en w3 ⟨g, rfl, hz, hg, hb⟩; have hX := below_then (show Below W0.heap.size W0 _ by first | exact HB2.out.drew | exact (HB2.out.alloc hs2 _).drew | exact HB2.out.drew.alloc hs2 _) hb; have hs3 := hX.size; obtain ⟨⟨p0, p1, _, _, p2⟩, ⟨r0, r1, _, _, r2⟩, ⟨t0, t1, t2, t3, t4⟩, hx1, hbw⟩ := stay.out w3 hX; have HX3 := Lib.hid hX; have HZ := Lib.hid hz; have HK3 := Lib.hid (fun p (hp : Blk _ p) => hp.below hb); clear hz hg hb hX hx1 hbw HA)
             | (go_at_call 153; refine (HC.out _ (by first | exact HX3.out | exact HX3.out.alloc hs3 _)).mono ?_; rintro en w4 ⟨g4, rfl, hz, hg, hb⟩; have hX := below_then (show Below W0.heap.size W0 _ by first | exact HX3.out | exact HX3.out.alloc hs3 _) hb; have hs4 := hX.size; obtain ⟨⟨p0, p1, _, _, p2⟩, ⟨r0, r1, _, _, r2⟩, ⟨t0, t1, t2, t3, t4⟩, hx1, hbw⟩ := stay.out w4 hX; have HX4 := Lib.hid hX; have HZ1 := Lib.hid (show Z w4 g xx from (by first | exact HZ.out.below hb | exact (HZ.out.below (Ma.below_alloc _ _)).below hb)); have HZ2 := Lib.hid hz; have HK4 := Lib.hid (fun p (hp : Blk _ p) => hp.below hb); clear hz hg hb hX hx1 hbw HC HZ)
             | (go_at_call 152; refine (HP.out _ _ _ _ (by first | exact HK4.out _ (HK3.out _ ((Z.new _).blk.below (Below.refl _ _).drew)) | exact HK4.out _ (HK3.out _ (Z.new _).blk) | exact HK4.out _ (Z.new _).blk | exact (Z.new _).blk) (by first | exact HZ1.out | exact HZ1.out.below (Ma.below_alloc _ _)) (by first | exact HZ2.out | exact HZ2.out.below (Ma.below_alloc _ _))).mono ?_; rintro en w5 ⟨rfl, hz, hg⟩; have hX := news_below (W0 := W0) (by first | exact HX4.out | exact HX4.out.alloc hs4 _) (by first | exact hs2 | exact hs3 | exact hs4 | (simp; omega)) hg; obtain ⟨⟨p0, p1, _, _, p2⟩, ⟨r0, r1, _, _, r2⟩, ⟨t0, t1, t2, t3, t4⟩, hx1, hbw⟩ := stay.out w5 hX; have HX5 := Lib.hid hx1; have HB5 := Lib.hid hbw; have HZ5 := Lib.hid hz; clear hz hg hX hx1 hbw HP))
         all_goals go_wp2
         all_goals
           first
             | (have hst := storedN (e := e) HX5.out HB5.out (by omega) HZ5.out
                exact bodyPost_ret (results_single rfl (.cell (w.heap.size + 1 + 1) 71 #[.pointer (some ⟨_, 0, none⟩), .int .i64 e] (0, 0) _ rfl hst.1 Try.underlying71 rfl sizeN .nil)) rfl ⟨_, rfl, hst.2.1, hst.2.2⟩)
             | (have hst := storedN (e := f) HX5.out HB5.out (by omega) HZ5.out
                exact bodyPost_ret (results_single rfl (.cell (w.heap.size + 1 + 1) 71 #[.pointer (some ⟨_, 0, none⟩), .int .i64 f] (0, 0) _ rfl hst.1 Try.underlying71 rfl sizeN .nil)) rfl ⟨_, rfl, hst.2.1, hst.2.2⟩)
end Go.Proofs.Ytdboepiobaehkaa.Nc
end
section
set_option linter.unusedVariables false
set_option linter.unusedSimpArgs false
namespace Go.Proofs.Ytdboepiobaehkaa.Ng
open Go.RowKit Go.Proofs.YtdboepiobaehkaaW.PrintWords Go.Proofs.Ytdboepiobaehkaa.PW Go.Proofs.Ytdboepiobaehkaa.Pc Go.Proofs.Ytdboepiobaehkaa.Pb Go.Proofs.Ytdboepiobaehkaa.Pw Go.Proofs.Ytdboepiobaehkaa.Ma Go.Proofs.Ytdboepiobaehkaa.Mh Go.Proofs.Ytdboepiobaehkaa.Mu Go.Proofs.Ytdboepiobaehkaa.Na Go.Proofs.Ytdboepiobaehkaa.Nd Go.Proofs.Ytdboepiobaehkaa.Qa Dg
theorem cID {w : World} {s e : Int} {A : Option Addr} {c : Nat} {l : List Int} (hC : (Kd.int .i64).C w A l.length l) (hc : l.length ≤ c) :
    Calls Try.prog 25 #[.agg #[.int .i64 s, .slice A l.length c, .int .i64 e]] w fun en w' => en = .returned (.bool (isD s l e)) ∧ Below w.heap.size w w' := by
  obtain ⟨k, hk⟩ := (idIs s l e hC.2.1).rounds
  exact impl_IsDyadic.calls k s A c l e _ w hC hc hk
end Go.Proofs.Ytdboepiobaehkaa.Ng
end
section
set_option linter.unusedVariables false
namespace Go.Proofs.Ytdboepiobaehkaa.Nj
open Go.RowKit Go.Proofs.YtdboepiobaehkaaW.PrintWords Go.Proofs.Ytdboepiobaehkaa.PW Go.Proofs.Ytdboepiobaehkaa.Pc Go.Proofs.Ytdboepiobaehkaa.Pb Go.Proofs.Ytdboepiobaehkaa.Pw Go.Proofs.Ytdboepiobaehkaa.Ma Go.Proofs.Ytdboepiobaehkaa.Mh Go.Proofs.Ytdboepiobaehkaa.Mu Go.Proofs.Ytdboepiobaehkaa.Na Go.Proofs.Ytdboepiobaehkaa.Nd Go.Proofs.Ytdboepiobaehkaa.Qa Dg
def Pair (w W : World) (s e : Int) (A : Option Addr) (n c : Nat) (s1 e1 : Int) (A1 : Option Addr) (n1 c1 : Nat) : Prop :=
  (W.cell? ⟨w.heap.size, 0, none⟩ = some (.int .i64 s) ∧ W.cell? ⟨w.heap.size, 1, none⟩ = some (.slice A n c) ∧ W.cell? ⟨w.heap.size, 2, none⟩ = some (.int .i64 e)) ∧
  (W.cell? ⟨w.heap.size + 1, 0, none⟩ = some (.int .i64 s1) ∧ W.cell? ⟨w.heap.size + 1, 1, none⟩ = some (.slice A1 n1 c1) ∧ W.cell? ⟨w.heap.size + 1, 2, none⟩ = some (.int .i64 e1)) ∧
  (w.heap.size < W.heap.size ∧ w.heap.size + 1 < W.heap.size) ∧ Below w.heap.size w W
theorem pair (w : World) (s e : Int) (A : Option Addr) (n c : Nat) (s1 e1 : Int) (A1 : Option Addr) (n1 c1 : Nat) {W0 : World} (hW0 : W0 = (w.alloc (.cells #[.int .i64 s, .slice A n c, .int .i64 e] 31)).alloc (.cells #[.int .i64 s1, .slice A1 n1 c1, .int .i64 e1] 31)) :
    Below w.heap.size w W0 ∧ ∀ W, Below W0.heap.size W0 W → Pair w W s e A n c s1 e1 A1 n1 c1 := by
  obtain ⟨hb0, hx0, hx1, hs0⟩ := boxes2 w (.cells #[.int .i64 s, .slice A n c, .int .i64 e] 31) (.cells #[.int .i64 s1, .slice A1 n1 c1, .int .i64 e1] 31) W0 (by rw [hW0]; exact Below.refl _ _)
  refine ⟨hb0, fun W hb => ?_⟩
  have hy0 := (hb.block _ (by omega)).trans hx0
  have hy1 := (hb.block _ (by omega)).trans hx1
  obtain ⟨a0, a1, a2, a3, a4, a5, a6⟩ := cellsD hy0
  obtain ⟨b0, b1, b2, b3, b4, b5, b6⟩ := cellsD hy1
  exact ⟨⟨a0, a1, a2⟩, ⟨b0, b1, b2⟩, ⟨a6, b6⟩, hb0.trans (hb.mono (Nat.le_trans (by omega) hs0))⟩
end Go.Proofs.Ytdboepiobaehkaa.Nj
end
section
set_option linter.unusedVariables false
set_option linter.unusedSimpArgs false
namespace Go.Proofs.Ytdboepiobaehkaa.Nh
open Go.RowKit Go.Proofs.YtdboepiobaehkaaW.PrintWords Go.Proofs.Ytdboepiobaehkaa.PW Go.Proofs.Ytdboepiobaehkaa.Pc Go.Proofs.Ytdboepiobaehkaa.Pb Go.Proofs.Ytdboepiobaehkaa.Pw Go.Proofs.Ytdboepiobaehkaa.Ma Go.Proofs.Ytdboepiobaehkaa.Mb Go.Proofs.Ytdboepiobaehkaa.Mc Go.Proofs.Ytdboepiobaehkaa.Md Go.Proofs.Ytdboepiobaehkaa.Me Go.Proofs.Ytdboepiobaehkaa.Mu Go.Proofs.Ytdboepiobaehkaa.Na Go.Proofs.Ytdboepiobaehkaa.Nc Dg
open Pm (sgn)
set_option maxRecDepth 20000 in
set_option maxHeartbeats 1600000 in
theorem nsub {w : World} {q s : Nat} {x y e f : Int} (hx : Z w q x) (hy : Z w s y) (hbx : bl x.natAbs ≤ 100000000) (hby : bl y.natAbs ≤ 100000000) (h1 : -1000000 ≤ e) (h2 : e ≤ 1000000) (h3 : -1000000 ≤ f) (h4 : f ≤ 1000000) :
    Calls Try.prog 102 #[.agg #[.pointer (some ⟨q, 0, none⟩), .int .i64 e], .agg #[.pointer (some ⟨s, 0, none⟩), .int .i64 f]] w (GivesN w (addz x e (-y) f) (adde x e (-y) f)) := by
  obtain ⟨W0, hW0⟩ : ∃ W0, W0 = ((w.alloc (.cells #[.pointer (some ⟨q, 0, none⟩), .int .i64 e] 71)).alloc (.cells #[.pointer (some ⟨s, 0, none⟩), .int .i64 f] 71)).alloc (.cells #[.pointer none, .int .i64 0] 71) := ⟨_, rfl⟩
  obtain ⟨hb0, hx0, hy0, hx1, hs0⟩ := boxes3 w (.cells #[.pointer (some ⟨q, 0, none⟩), .int .i64 e] 71) (.cells #[.pointer (some ⟨s, 0, none⟩), .int .i64 f] 71) (.cells #[.pointer none, .int .i64 0] 71) W0 (by rw [hW0]; exact Below.refl _ _)
  have zx := hx.below hb0
  have zy := hy.below hb0
  have HN := Lib.hid (fun (W : World) (hb : Below W0.heap.size W0 W) => nneg (e := f) (zy.below hb) (by omega))
  have HA := Lib.hid (fun (W : World) (g : Nat) (hb : Below W0.heap.size W0 W) (hz : Z W g (-y)) => nadd (e := e) (f := f) (zx.below hb) hz hbx (by rw [Int.natAbs_neg]; exact hby) h1 h2 h3 h4)
  obtain ⟨c0, c1, _, _, l0⟩ := cellsN hx0
  obtain ⟨e0, e1, _, _, m0⟩ := cellsN hy0
  obtain ⟨d0, d1, f0, f1, l1⟩ := cellsN hx1
  have n0 : w.heap.size ≠ w.heap.size + 1 + 1 := by omega
  have n1 := Ne.symm n0
  have stay := Lib.hid (fun (W : World) (hb : Below W0.heap.size W0 W) => (⟨cellsN ((hb.block _ l0).trans hx0), cellsN ((hb.block _ m0).trans hy0), cellsN ((hb.block _ l1).trans hx1), (hb.block _ l1).trans hx1, hb0.trans (hb.mono (Nat.le_trans (by omega) hs0))⟩ : _ ∧ _ ∧ _ ∧ _ ∧ Below w.heap.size w W))
  have HW := Lib.hid hW0
  clear hx hy hb0 hx0 hx1 hy0 hW0 zx zy hbx hby h1 h2 h3 h4
  generalize addz x e (-y) f = z at *
  generalize adde x e (-y) f = k at *
  go_enter Try.func102, Try.ntmps102
  go_wp2_with fail
  rw [← HW.out]
  clear HW
  go_region_held3 (fun w' => w'.cell? ⟨w.heap.size, 0, none⟩ = some (.pointer (some ⟨q, 0, none⟩)) ∧ w'.cell? ⟨w.heap.size, 1, none⟩ = some (.int .i64 e) ∧ w'.cell? ⟨w.heap.size + 1, 0, none⟩ = some (.pointer (some ⟨s, 0, none⟩)) ∧ w'.cell? ⟨w.heap.size + 1, 1, none⟩ = some (.int .i64 f)) (go_keep)
    (first
      | (go_at_call 98; refine (HN.out _ (by first | exact Below.refl _ _ | exact (Below.refl _ _).drew)).mono ?_; rintro en w2 ⟨g, rfl, hz, hb⟩; have hX := below_then (show Below W0.heap.size W0 _ by first | exact Below.refl _ _ | exact (Below.refl _ _).drew) hb; obtain ⟨⟨p0, p1, _, _, p2⟩, ⟨r0, r1, _, _, r2⟩, ⟨t0, t1, t2, t3, t4⟩, hx1, hbw⟩ := stay.out w2 hX; have HX := Lib.hid hX; have HZ := Lib.hid hz; clear hz hb hX hx1 hbw)
      | (go_at_call 100; refine (HA.out _ _ HX.out HZ.out).mono ?_; rintro en w3 ⟨g3, rfl, hz, hb⟩; have hX := below_then HX.out hb; obtain ⟨⟨p0, p1, _, _, p2⟩, ⟨r0, r1, _, _, r2⟩, ⟨t0, t1, t2, t3, t4⟩, hx1, hbw⟩ := stay.out w3 hX; have HX3 := Lib.hid hx1; have HB3 := Lib.hid hbw; have HZ3 := Lib.hid hz; clear hz hb hX hx1 hbw))
  all_goals go_wp2
  all_goals
    have hst := storedN (e := k) HX3.out HB3.out (by omega) HZ3.out
    exact bodyPost_ret (results_single rfl (.cell (w.heap.size + 1 + 1) 71 #[.pointer (some ⟨_, 0, none⟩), .int .i64 k] (0, 0) _ rfl hst.1 Try.underlying71 rfl sizeN .nil)) rfl ⟨_, rfl, hst.2.1, hst.2.2⟩
set_option maxRecDepth 20000 in
set_option maxHeartbeats 800000 in
theorem ncmp {w : World} {q s : Nat} {x y e f : Int} (hx : Z w q x) (hy : Z w s y) (hbx : bl x.natAbs ≤ 100000000) (hby : bl y.natAbs ≤ 100000000) (h1 : -1000000 ≤ e) (h2 : e ≤ 1000000) (h3 : -1000000 ≤ f) (h4 : f ≤ 1000000) :
    Calls Try.prog 90 #[.agg #[.pointer (some ⟨q, 0, none⟩), .int .i64 e], .agg #[.pointer (some ⟨s, 0, none⟩), .int .i64 f]] w fun en w' => en = .returned (.int .i64 (sgn (addz x e (-y) f))) ∧ Below w.heap.size w w' := by
  obtain ⟨W0, hW0⟩ : ∃ W0, W0 = (w.alloc (.cells #[.pointer (some ⟨q, 0, none⟩), .int .i64 e] 71)).alloc (.cells #[.pointer (some ⟨s, 0, none⟩), .int .i64 f] 71) := ⟨_, rfl⟩
  obtain ⟨hb0, hx0, hy0, hs0⟩ := boxes2 w (.cells #[.pointer (some ⟨q, 0, none⟩), .int .i64 e] 71) (.cells #[.pointer (some ⟨s, 0, none⟩), .int .i64 f] 71) W0 (by rw [hW0]; exact Below.refl _ _)
  have HS := Lib.hid (nsub (e := e) (f := f) (hx.below hb0) (hy.below hb0) hbx hby h1 h2 h3 h4)
  have HB0 := Lib.hid hb0
  obtain ⟨c0, c1, _, _, l0⟩ := cellsN hx0
  obtain ⟨e0, e1, _, _, m0⟩ := cellsN hy0
  have HW := Lib.hid hW0
  have hle : w.heap.size ≤ W0.heap.size := by omega
  clear hx hy hb0 hx0 hy0 hW0 hbx hby h1 h2 h3 h4
  generalize addz x e (-y) f = z at *
  generalize adde x e (-y) f = k at *
  go_enter Try.func90, Try.ntmps90
  go_upto_region 1 with fail
  rw [← HW.out]
  clear HW
  go_wp2_with fail
  refine HS.out.mono ?_
  rintro en w2 ⟨g, rfl, hz, hb⟩
  have HB2 := Lib.hid (HB0.out.trans (hb.mono hle))
  have HT := Lib.hid (nsign (e := k) hz)
  clear hz hb
  go_wp2_with fail
  refine HT.out.mono ?_
  rintro en w3 ⟨rfl, hb⟩
  have HB3 := Lib.hid (below_then HB2.out hb)
  clear hb
  go_wp2
  go_ret
  exact ⟨rfl, HB3.out⟩
end Go.Proofs.Ytdboepiobaehkaa.Nh
end
section
set_option linter.unusedVariables false
set_option linter.unusedSimpArgs false
namespace Go.Proofs.Ytdboepiobaehkaa.PW
open Go.RowKit Go.Proofs.YtdboepiobaehkaaW.PrintWords Go.Proofs.Ytdboepiobaehkaa.Pc Go.Proofs.Ytdboepiobaehkaa.Pb Go.Proofs.Ytdboepiobaehkaa.Pw Go.Proofs.Ytdboepiobaehkaa.Ma Go.Proofs.Ytdboepiobaehkaa.Mb Go.Proofs.Ytdboepiobaehkaa.Mc Go.Proofs.Ytdboepiobaehkaa.Me Go.Proofs.Ytdboepiobaehkaa.Mh Go.Proofs.Ytdboepiobaehkaa.Mk Go.Proofs.Ytdboepiobaehkaa.Mu Go.Proofs.Ytdboepiobaehkaa.Na Go.Proofs.Ytdboepiobaehkaa.Nc Go.Proofs.Ytdboepiobaehkaa.Nd Go.Proofs.Ytdboepiobaehkaa.Nf Go.Proofs.Ytdboepiobaehkaa.Ng Go.Proofs.Ytdboepiobaehkaa.Nj Go.Proofs.Ytdboepiobaehkaa.Nh Go.Proofs.Ytdboepiobaehkaa.Qa Dg
def impl_CompareDyadics.f (a0_0 : Int) (l0_1 : List Int) (a0_2 : Int) (a1_0 : Int) (l1_1 : List Int) (a1_2 : Int) : Option (Int × Int) := some (if isD a0_0 l0_1 a0_2 = true ∧ isD a1_0 l1_1 a1_2 = true then (Pm.sgn (addz (wv a0_0 l0_1) a0_2 (-(wv a1_0 l1_1)) a1_2), 0) else (0, 1))
set_option maxRecDepth 20000 in
set_option maxHeartbeats 1600000 in
theorem impl_CompareDyadics.calls (a0_0 : Int) (A0_1 : Option Addr) (c0_1 : Nat) (l0_1 : List Int) (a0_2 : Int) (a1_0 : Int) (A1_1 : Option Addr) (c1_1 : Nat) (l1_1 : List Int) (a1_2 : Int) (r1 : Int) (r2 : Int) (w : World) (hr0_1 : Kd.C (Kd.int .i64) w A0_1 l0_1.length l0_1) (hc0_1 : l0_1.length ≤ c0_1) (hr1_1 : Kd.C (Kd.int .i64) w A1_1 l1_1.length l1_1) (hc1_1 : l1_1.length ≤ c1_1) (h : impl_CompareDyadics.f a0_0 l0_1 a0_2 a1_0 l1_1 a1_2 = some (r1, r2)) :
    Calls Try.prog 38 #[.agg #[.int .i64 a0_0, .slice A0_1 l0_1.length c0_1, .int .i64 a0_2], .agg #[.int .i64 a1_0, .slice A1_1 l1_1.length c1_1, .int .i64 a1_2]] w fun e w' => e = .returned (.tuple #[.int .i64 r1, .int .i64 r2]) ∧ Below w.heap.size w w' := by
  unfold impl_CompareDyadics.f at h
  obtain ⟨W0, hW0⟩ : ∃ W0, W0 = (w.alloc (.cells #[.int .i64 a0_0, .slice A0_1 l0_1.length c0_1, .int .i64 a0_2] 31)).alloc (.cells #[.int .i64 a1_0, .slice A1_1 l1_1.length c1_1, .int .i64 a1_2] 31) := ⟨_, rfl⟩
  obtain ⟨hb0, stay0⟩ := pair w a0_0 a0_2 A0_1 l0_1.length c0_1 a1_0 a1_2 A1_1 l1_1.length c1_1 hW0
  have stay := Lib.hid stay0
  have HI0 := fun (W : World) (hb : Below W0.heap.size W0 W) => cID (s := a0_0) (e := a0_2) (C_at (C_at hr0_1 hb0) hb) hc0_1
  have HJ0 := fun (W : World) (hb : Below W0.heap.size W0 W) => cID (s := a1_0) (e := a1_2) (C_at (C_at hr1_1 hb0) hb) hc1_1
  have HC0 := Lib.hid (fun (W : World) (hb : Below W0.heap.size W0 W) => C_at (C_at hr0_1 hb0) hb)
  have HC1 := Lib.hid (fun (W : World) (hb : Below W0.heap.size W0 W) => C_at (C_at hr1_1 hb0) hb)
  have HW := Lib.hid hW0
  clear hW0 stay0 hr0_1 hr1_1 hc0_1 hc1_1 hb0
  cases hw : isD a0_0 l0_1 a0_2 with
  | false =>
    rw [hw] at h HI0
    rw [if_neg (by simp)] at h
    obtain ⟨rfl, rfl⟩ := Prod.mk.inj (Option.some.inj h)
    have HI := Lib.hid HI0
    clear h hw HI0 HJ0
    go_enter Try.func38, Try.ntmps38
    go_upto_region 1 with fail
    rw [← HW.out]
    clear HW
    obtain ⟨⟨c0, c1, c2⟩, ⟨e0, e1, e2⟩, ⟨z0, z1⟩, hbw⟩ := stay.out W0 (Below.refl _ _)
    clear hbw
    go_wp2_with fail
    refine (HI.out W0 (Below.refl _ _)).mono ?_
    rintro en w1 ⟨rfl, hb⟩
    clear c0 c1 c2 e0 e1 e2 z0 z1
    obtain ⟨⟨c0, c1, c2⟩, ⟨e0, e1, e2⟩, ⟨z0, z1⟩, hbw⟩ := stay.out w1 hb
    have HB := Lib.hid hbw
    clear hbw hb
    go_wp2
    go_ret2
    exact ⟨rfl, HB.out⟩
  | true =>
    rw [hw] at h HI0
    have HI := Lib.hid HI0
    clear HI0
    cases hx : isD a1_0 l1_1 a1_2 with
    | false =>
      rw [hx] at h HJ0
      rw [if_neg (by simp)] at h
      obtain ⟨rfl, rfl⟩ := Prod.mk.inj (Option.some.inj h)
      have HJ := Lib.hid HJ0
      clear h hw hx HJ0
      go_enter Try.func38, Try.ntmps38
      go_upto_region 1 with fail
      rw [← HW.out]
      clear HW
      obtain ⟨⟨c0, c1, c2⟩, ⟨e0, e1, e2⟩, ⟨z0, z1⟩, hbw⟩ := stay.out W0 (Below.refl _ _)
      clear hbw
      go_wp2_with fail
      refine (HI.out W0 (Below.refl _ _)).mono ?_
      rintro en w1 ⟨rfl, hb⟩
      clear c0 c1 c2 e0 e1 e2 z0 z1
      obtain ⟨⟨c0, c1, c2⟩, ⟨e0, e1, e2⟩, ⟨z0, z1⟩, hbw⟩ := stay.out w1 hb
      have HB1 := Lib.hid hb
      clear hbw hb
      go_wp2_with fail
      refine (HJ.out w1 HB1.out).mono ?_
      rintro en w2 ⟨rfl, hb⟩
      have hbb := below_then HB1.out hb
      clear c0 c1 c2 e0 e1 e2 z0 z1
      obtain ⟨⟨c0, c1, c2⟩, ⟨e0, e1, e2⟩, ⟨z0, z1⟩, hbw⟩ := stay.out w2 hbb
      have HB := Lib.hid hbw
      clear hbw hb hbb
      go_wp2
      go_ret2
      exact ⟨rfl, HB.out⟩
    | true =>
      rw [hx] at h HJ0
      rw [if_pos ⟨rfl, rfl⟩] at h
      have h1 := Option.some.inj h
      have HJ := Lib.hid HJ0
      have hW := isD_W hw
      have he := isD_e hw
      have hW1 := isD_W hx
      have he1 := isD_e hx
      have b0 := (isW_eq hW).2.2
      have b1 := (isW_eq hW1).2.2
      have HN := Lib.hid (fun (W : World) (hb : Below W0.heap.size W0 W) => numberOf (c := c0_1) (e := a0_2) (HC0.out W hb) hW)
      have HM := Lib.hid (fun (W : World) (hb : Below W0.heap.size W0 W) => numberOf (c := c1_1) (e := a1_2) (HC1.out W hb) hW1)
      have HO := Lib.hid (fun (W : World) (g g4 : Nat) (hz : Z W g (wv a0_0 l0_1)) (hz4 : Z W g4 (wv a1_0 l1_1)) => ncmp (e := a0_2) (f := a1_2) hz hz4 (by omega) (by omega) (by omega) (by omega) (by omega) (by omega))
      obtain ⟨rfl, rfl⟩ := Prod.mk.inj h1
      clear h h1 hw hx HJ0 hW hW1 b0 b1 he he1
      generalize addz (wv a0_0 l0_1) a0_2 (-(wv a1_0 l1_1)) a1_2 = zz at *
      go_enter Try.func38, Try.ntmps38
      go_upto_region 1 with fail
      rw [← HW.out]
      clear HW
      obtain ⟨⟨c0, c1, c2⟩, ⟨e0, e1, e2⟩, ⟨z0, z1⟩, hbw⟩ := stay.out W0 (Below.refl _ _)
      clear hbw
      go_wp2_with fail
      refine (HI.out W0 (Below.refl _ _)).mono ?_
      rintro en w1 ⟨rfl, hb⟩
      clear c0 c1 c2 e0 e1 e2 z0 z1
      obtain ⟨⟨c0, c1, c2⟩, ⟨e0, e1, e2⟩, ⟨z0, z1⟩, hbw⟩ := stay.out w1 hb
      have HB1 := Lib.hid hb
      clear hbw hb
      go_wp2_with fail
      refine (HJ.out w1 HB1.out).mono ?_
      rintro en w2 ⟨rfl, hb⟩
      have hbb := below_then HB1.out hb
      clear c0 c1 c2 e0 e1 e2 z0 z1
      obtain ⟨⟨c0, c1, c2⟩, ⟨e0, e1, e2⟩, ⟨z0, z1⟩, hbw⟩ := stay.out w2 hbb
      have HB2 := Lib.hid hbb
      clear hbw hb hbb HB1
      go_wp2_with fail
      go_region_held3 (fun w' => w'.cell? ⟨w.heap.size, 0, none⟩ = some (.int .i64 a0_0) ∧ w'.cell? ⟨w.heap.size, 1, none⟩ = some (.slice A0_1 l0_1.length c0_1) ∧ w'.cell? ⟨w.heap.size, 2, none⟩ = some (.int .i64 a0_2) ∧ w'.cell? ⟨w.heap.size + 1, 0, none⟩ = some (.int .i64 a1_0) ∧ w'.cell? ⟨w.heap.size + 1, 1, none⟩ = some (.slice A1_1 l1_1.length c1_1) ∧ w'.cell? ⟨w.heap.size + 1, 2, none⟩ = some (.int .i64 a1_2)) (go_keep)
        (first
          | (go_at_call 89; refine (HN.out _ (by first | exact HB2.out | exact HB2.out.drew)).mono ?_; rintro en w3 ⟨g, rfl, hz, hb⟩; have hX := below_then (show Below W0.heap.size W0 _ by first | exact HB2.out | exact HB2.out.drew) hb; obtain ⟨⟨c0, c1, c2⟩, ⟨e0, e1, e2⟩, ⟨z0, z1⟩, hbw⟩ := stay.out w3 hX; have HX3 := Lib.hid hX; have HZ := Lib.hid hz; clear hz hb hX hbw HN)
          | (go_at_call 89; refine (HM.out _ HX3.out).mono ?_; rintro en w4 ⟨g4, rfl, hz, hb⟩; have hX := below_then HX3.out hb; obtain ⟨⟨c0, c1, c2⟩, ⟨e0, e1, e2⟩, ⟨z0, z1⟩, hbw⟩ := stay.out w4 hX; have HX4 := Lib.hid hX; have HZ1 := Lib.hid (HZ.out.below hb); have HZ2 := Lib.hid hz; clear hz hb hX hbw HM HZ)
          | (go_at_call 90; refine (HO.out _ _ _ HZ1.out HZ2.out).mono ?_; rintro en w5 ⟨rfl, hb⟩; have hX := below_then HX4.out hb; obtain ⟨⟨c0, c1, c2⟩, ⟨e0, e1, e2⟩, ⟨z0, z1⟩, hbw⟩ := stay.out w5 hX; have HB6 := Lib.hid hbw; clear hb hX hbw HO))
      all_goals go_wp2
      all_goals go_ret2
      all_goals exact ⟨rfl, HB6.out⟩
end Go.Proofs.Ytdboepiobaehkaa.PW
end
section
namespace Go.Proofs.Ytdboepiobaehkaa.PW
open Go.RowKit Go.Proofs.YtdboepiobaehkaaW.PrintWords Go.Proofs.YtdboepiobaehkaaW.PrintLast Go.Proofs.YtdboepiobaehkaaW.PrintMore
attribute [local go_sem] max2_int min2_int max_two min_two max_three min_three max_four min_four   -- for this text's walks alone
set_option linter.unusedVariables false
set_option linter.unusedSimpArgs false
def laws_FnExactCompareDyadics.j0 : Nat → Bool → Int → List Int → Int → Int → List Int → Int → Int → List Int → Int → Int → List Int → Int → Option (Bool)
  | 0, _, _, _, _, _, _, _, _, _, _, _, _, _ => none
  | k + 1, x47, x398000, x398001, x398002, x399000, x399001, x399002, x419000, x419001, x419002, x425000, x425001, x425002 => if x47 = true then (some false) else ((laws_toDyadic.f k x398000 x398001 x398002).bind fun bt427 => ((laws_eqDyadic.f k x419000 x419001 x419002 bt427.1 bt427.2.1 bt427.2.2).bind fun t432 => (if t432 = true then ((laws_toDyadic.f k x399000 x399001 x399002).bind fun bt433 => ((laws_eqDyadic.f k x425000 x425001 x425002 bt433.1 bt433.2.1 bt433.2.2).bind fun t438 => (if t438 = true then (some true) else (some false)))) else (some false))))
def laws_FnExactCompareDyadics.f (k : Nat) (a0_0 : Int) (l0_1 : List Int) (a0_2 : Int) (a1_0 : Int) (l1_1 : List Int) (a1_2 : Int) : Option (Bool) := (laws_szDyadic.f a0_0 l0_1 a0_2 1048576).bind fun t399 => (if t399 < 0 then (some true) else ((laws_szDyadic.f a1_0 l1_1 a1_2 t399).bind fun t400 => (if t400 < 0 then (some true) else ((laws_toDyadic.f k a0_0 l0_1 a0_2).bind fun bt401 => ((laws_toDyadic.f k a1_0 l1_1 a1_2).bind fun bt406 => ((spec_CompareDyadics.f k bt401.1 bt401.2.1 bt401.2.2 bt406.1 bt406.2.1 bt406.2.2).bind fun bt411 => ((laws_toDyadic.f k a0_0 l0_1 a0_2).bind fun bt413 => ((laws_toDyadic.f k a1_0 l1_1 a1_2).bind fun bt419 => ((impl_CompareDyadics.f bt413.1 bt413.2.1 bt413.2.2 bt419.1 bt419.2.1 bt419.2.2).bind fun bt425 => (if bt425.1 = bt411.1 then (laws_FnExactCompareDyadics.j0 k (bt425.2 != bt411.2) a0_0 l0_1 a0_2 a1_0 l1_1 a1_2 bt413.1 bt413.2.1 bt413.2.2 bt419.1 bt419.2.1 bt419.2.2) else (laws_FnExactCompareDyadics.j0 k true a0_0 l0_1 a0_2 a1_0 l1_1 a1_2 bt413.1 bt413.2.1 bt413.2.2 bt419.1 bt419.2.1 bt419.2.2)))))))))))
theorem laws_FnExactCompareDyadics.mono_l : ∀ k, (∀ y0 y1 y2 y3 y4 y5 y6 y7 y8 y9 y10 y11 y12, LeO (laws_FnExactCompareDyadics.j0 k y0 y1 y2 y3 y4 y5 y6 y7 y8 y9 y10 y11 y12) (laws_FnExactCompareDyadics.j0 (k + 1) y0 y1 y2 y3 y4 y5 y6 y7 y8 y9 y10 y11 y12))
  | 0 => fun _ _ _ _ _ _ _ _ _ _ _ _ _ r h => by simp [laws_FnExactCompareDyadics.j0] at h
  | k + 1 => by
    have ih0 := laws_FnExactCompareDyadics.mono_l k
    · intro y0 y1 y2 y3 y4 y5 y6 y7 y8 y9 y10 y11 y12
      unfold laws_FnExactCompareDyadics.j0
      repeat' first
      | (with_reducible exact ih0 _ _ _ _ _ _ _ _ _ _ _ _ _)
      | (with_reducible exact laws_eqDyadic.mono _ _ _ _ _ _ _)
      | (with_reducible exact laws_toDyadic.mono _ _ _ _)
      | (with_reducible exact spec_CompareDyadics.mono _ _ _ _ _ _ _)
      | (with_reducible exact LeO.refl _)
      | (with_reducible exact LeO.none _)
      | (with_reducible refine LeO.ite ?_ ?_)
      | (with_reducible refine LeO.bind ?_ (fun _ => ?_))
      | exact ih0 _ _ _ _ _ _ _ _ _ _ _ _ _
      | exact laws_eqDyadic.mono _ _ _ _ _ _ _
      | exact laws_toDyadic.mono _ _ _ _
      | exact spec_CompareDyadics.mono _ _ _ _ _ _ _
      | exact LeO.none _
      | refine LeO.ite ?_ ?_
      | refine LeO.bind ?_ (fun _ => ?_)
theorem laws_FnExactCompareDyadics.mono : ∀ a0 a1 a2 a3 a4 a5 k, LeO (laws_FnExactCompareDyadics.f k a0 a1 a2 a3 a4 a5) (laws_FnExactCompareDyadics.f (k + 1) a0 a1 a2 a3 a4 a5) := by
  intro a0 a1 a2 a3 a4 a5 k
  have ih0 := laws_FnExactCompareDyadics.mono_l k
  unfold laws_FnExactCompareDyadics.f
  repeat' first
      | (with_reducible exact ih0 _ _ _ _ _ _ _ _ _ _ _ _ _)
      | (with_reducible exact laws_eqDyadic.mono _ _ _ _ _ _ _)
      | (with_reducible exact laws_toDyadic.mono _ _ _ _)
      | (with_reducible exact spec_CompareDyadics.mono _ _ _ _ _ _ _)
      | (with_reducible exact LeO.refl _)
      | (with_reducible exact LeO.none _)
      | (with_reducible refine LeO.ite ?_ ?_)
      | (with_reducible refine LeO.bind ?_ (fun _ => ?_))
      | exact ih0 _ _ _ _ _ _ _ _ _ _ _ _ _
      | exact laws_eqDyadic.mono _ _ _ _ _ _ _
      | exact laws_toDyadic.mono _ _ _ _
      | exact spec_CompareDyadics.mono _ _ _ _ _ _ _
      | exact LeO.none _
      | refine LeO.ite ?_ ?_
      | refine LeO.bind ?_ (fun _ => ?_)
def laws_FnExactCompareDyadics.T8 : Bool × List (List Nat × List Nat) := (true, [([], []), ([0], [0]), ([], []), ([2, 1], [2]), ([1, 3, 3], [1, 3]), ([4], [4]), ([5], [5]), ([5], [5]), ([6, 4, 0, 1, 2, 3, 4, 5, 6], [6]), ([7, 8, 0, 1, 2, 3, 4, 5, 6, 7, 8], [7])])
def laws_FnExactCompareDyadics.B8 : List Nat := [0, 1, 0, 7, 15, 31, 63, 63, 127, 511]
theorem laws_FnExactCompareDyadics.tab8 : rtab .any (opsOf Try.f6 8) = laws_FnExactCompareDyadics.T8 := by kernel_rfl
theorem laws_FnExactCompareDyadics.bits8 : waitsOk laws_FnExactCompareDyadics.T8.2 laws_FnExactCompareDyadics.B8 = true := by kernel_rfl
set_option maxHeartbeats 8000000 in
set_option maxRecDepth 100000 in
theorem laws_FnExactCompareDyadics.calls (k : Nat) (a0_0 : Int) (A0_1 : Option Addr) (c0_1 : Nat) (l0_1 : List Int) (a0_2 : Int) (a1_0 : Int) (A1_1 : Option Addr) (c1_1 : Nat) (l1_1 : List Int) (a1_2 : Int) (r : Bool) (w : World) (hr0_1 : Kd.C (Kd.int .i64) w A0_1 l0_1.length l0_1) (hc0_1 : l0_1.length ≤ c0_1) (hr1_1 : Kd.C (Kd.int .i64) w A1_1 l1_1.length l1_1) (hc1_1 : l1_1.length ≤ c1_1) (h : laws_FnExactCompareDyadics.f k a0_0 l0_1 a0_2 a1_0 l1_1 a1_2 = some r) :
    Calls Try.prog 6 #[.agg #[.int .i64 a0_0, .slice A0_1 l0_1.length c0_1, .int .i64 a0_2], .agg #[.int .i64 a1_0, .slice A1_1 l1_1.length c1_1, .int .i64 a1_2]] w fun e w' => e = .returned (.bool r) ∧ Below w.heap.size w w' := by
  have hu26 := Try.underlying26
  have hu31 := Try.underlying31
  have HR0_1 := Aside0.mk hr0_1
  have HC0_1 := Aside0.mk hc0_1
  clear hr0_1 hc0_1
  have HR1_1 := Aside0.mk hr1_1
  have HC1_1 := Aside0.mk hc1_1
  clear hr1_1 hc1_1
  have HB := Aside0.mk (Below.refl w.heap.size w)
  have H : ((laws_szDyadic.f a0_0 l0_1 a0_2 1048576).bind fun t399 => (if t399 < 0 then (some true) else ((laws_szDyadic.f a1_0 l1_1 a1_2 t399).bind fun t400 => (if t400 < 0 then (some true) else ((laws_toDyadic.f k a0_0 l0_1 a0_2).bind fun bt401 => ((laws_toDyadic.f k a1_0 l1_1 a1_2).bind fun bt406 => ((spec_CompareDyadics.f k bt401.1 bt401.2.1 bt401.2.2 bt406.1 bt406.2.1 bt406.2.2).bind fun bt411 => ((laws_toDyadic.f k a0_0 l0_1 a0_2).bind fun bt413 => ((laws_toDyadic.f k a1_0 l1_1 a1_2).bind fun bt419 => ((impl_CompareDyadics.f bt413.1 bt413.2.1 bt413.2.2 bt419.1 bt419.2.1 bt419.2.2).bind fun bt425 => (if bt425.1 = bt411.1 then (laws_FnExactCompareDyadics.j0 k (bt425.2 != bt411.2) a0_0 l0_1 a0_2 a1_0 l1_1 a1_2 bt413.1 bt413.2.1 bt413.2.2 bt419.1 bt419.2.1 bt419.2.2) else (laws_FnExactCompareDyadics.j0 k true a0_0 l0_1 a0_2 a1_0 l1_1 a1_2 bt413.1 bt413.2.1 bt413.2.2 bt419.1 bt419.2.1 bt419.2.2)))))))))))) = some r := h
  clear h
  replace H := Option.bind_eq_some_iff.mp H
  obtain ⟨t399, A30, H⟩ := H
  replace H : (if t399 < 0 then (some true) else ((laws_szDyadic.f a1_0 l1_1 a1_2 t399).bind fun t400 => (if t400 < 0 then (some true) else ((laws_toDyadic.f k a0_0 l0_1 a0_2).bind fun bt401 => ((laws_toDyadic.f k a1_0 l1_1 a1_2).bind fun bt406 => ((spec_CompareDyadics.f k bt401.1 bt401.2.1 bt401.2.2 bt406.1 bt406.2.1 bt406.2.2).bind fun bt411 => ((laws_toDyadic.f k a0_0 l0_1 a0_2).bind fun bt413 => ((laws_toDyadic.f k a1_0 l1_1 a1_2).bind fun bt419 => ((impl_CompareDyadics.f bt413.1 bt413.2.1 bt413.2.2 bt419.1 bt419.2.1 bt419.2.2).bind fun bt425 => (if bt425.1 = bt411.1 then (laws_FnExactCompareDyadics.j0 k (bt425.2 != bt411.2) a0_0 l0_1 a0_2 a1_0 l1_1 a1_2 bt413.1 bt413.2.1 bt413.2.2 bt419.1 bt419.2.1 bt419.2.2) else (laws_FnExactCompareDyadics.j0 k true a0_0 l0_1 a0_2 a1_0 l1_1 a1_2 bt413.1 bt413.2.1 bt413.2.2 bt419.1 bt419.2.1 bt419.2.2))))))))))) = some r := H
  have A3 := Aside0.mk A30
  clear A30
  by_cases c4 : t399 < 0
  · rw [if_pos c4] at H
    have c4b0 : decide (t399 < 0) = true := decide_eq_true c4
    clear c4
    obtain rfl := Option.some.inj H
    go_enter Try.func6, Try.ntmps6
    go_wp2_with (first | ((with_reducible refine gate_dst (N := 2) rfl ?_); refine box_event ?hg (N := 2) ?hd (cs := #[.int .i64 a0_0, .slice A0_1 l0_1.length c0_1, .int .i64 a0_2]) (t := 26) ?hr ?_; (case hd => rfl); (case hg => rfl); (case hr => first | (go_simp; done) | (go_simp; rfl)); intro gb397 hg w5 hbox hb; have n0_ := Aside0.mk (below_step (by repeat (first | (with_reducible first | exact HB.out | apply below_alloc | apply pw_below_drewN | apply below_drew1) | exact HB.out)) hb); have n1_ := Aside0.mk (hbox); have n2_ := Aside0.mk ((by rw [hg]; exact (below_size (by repeat (first | (with_reducible first | exact HB.out | apply below_alloc | apply pw_below_drewN | apply below_drew1) | exact HB.out))) : w.heap.size ≤ gb397)); have n3_ := Aside0.mk ((by rw [hg]; exact (below_size (by repeat (first | (with_reducible first | exact HB.out | apply below_alloc | apply pw_below_drewN | apply below_drew1) | exact HB.out))) : w.heap.size ≤ gb397)); clear HB; have HB := n0_; have BK397 := n1_; have GW397 := n2_; have GE397 := n3_; clear n0_ n1_ n2_ n3_; clear hb hbox hg) | ((with_reducible refine gate_dst (N := 3) rfl ?_); refine box_event ?hg (N := 3) ?hd (cs := #[.int .i64 a1_0, .slice A1_1 l1_1.length c1_1, .int .i64 a1_2]) (t := 26) ?hr ?_; (case hd => rfl); (case hg => rfl); (case hr => first | (go_simp; done) | (go_simp; rfl)); intro gb398 hg w6 hbox hb; have n0_ := Aside0.mk (blk_below (g := gb397) (o := .cells #[.int .i64 a0_0, .slice A0_1 l0_1.length c0_1, .int .i64 a0_2] 26 (0, 0)) (by (with_reducible repeat (first | refine blk_drewN ?_ _ | refine blk_drew ?_ | refine blk_alloc ?_ _)); exact BK397.out) hb); have n1_ := Aside0.mk (below_step (by repeat (first | (with_reducible first | exact HB.out | apply below_alloc | apply pw_below_drewN | apply below_drew1 | refine below_set ?_ GE397.out) | exact HB.out)) hb); have n2_ := Aside0.mk (hbox); have n3_ := Aside0.mk ((by rw [hg]; exact (below_size (by repeat (first | (with_reducible first | exact HB.out | apply below_alloc | apply pw_below_drewN | apply below_drew1 | refine below_set ?_ GE397.out) | exact HB.out))) : w.heap.size ≤ gb398)); have n4_ := Aside0.mk ((by rw [hg]; exact (below_size (by repeat (first | (with_reducible first | exact HB.out | apply below_alloc | apply pw_below_drewN | apply below_drew1 | refine below_set ?_ GE397.out) | exact HB.out))) : w.heap.size ≤ gb398)); have n5_ := Aside0.mk ((by rw [hg]; exact Nat.ne_of_lt (blk_lt (g := gb397) (o := .cells #[.int .i64 a0_0, .slice A0_1 l0_1.length c0_1, .int .i64 a0_2] 26 (0, 0)) (by (with_reducible repeat (first | refine blk_drewN ?_ _ | refine blk_drew ?_ | refine blk_alloc ?_ _)); exact BK397.out)) : gb397 ≠ gb398)); have n6_ := Aside0.mk ((by rw [hg]; exact Nat.ne_of_gt (blk_lt (g := gb397) (o := .cells #[.int .i64 a0_0, .slice A0_1 l0_1.length c0_1, .int .i64 a0_2] 26 (0, 0)) (by (with_reducible repeat (first | refine blk_drewN ?_ _ | refine blk_drew ?_ | refine blk_alloc ?_ _)); exact BK397.out)) : gb398 ≠ gb397)); clear BK397; clear HB; have BK397 := n0_; have HB := n1_; have BK398 := n2_; have GW398 := n3_; have GE398 := n4_; have NB397_398 := n5_; have NB398_397 := n6_; clear n0_ n1_ n2_ n3_ n4_ n5_ n6_; clear hb hbox hg; have hnb7 := NB397_398.out; have hnc7 := NB398_397.out; have hcz8_0 : w6.cell? ⟨gb397, 0, none⟩ = some (.int .i64 a0_0) := (blk_cell BK397.out 0).trans rfl; have hcz8_1 : w6.cell? ⟨gb397, 1, none⟩ = some (.slice A0_1 l0_1.length c0_1) := (blk_cell BK397.out 1).trans rfl; have hcz8_2 : w6.cell? ⟨gb397, 2, none⟩ = some (.int .i64 a0_2) := (blk_cell BK397.out 2).trans rfl; have hfz8_0 := blk_frozen BK397.out 0; have hfz8_1 := blk_frozen BK397.out 1; have hfz8_2 := blk_frozen BK397.out 2) | ((with_reducible refine gate_callee (f := 22) rfl ?_); refine goesL_ (some 14) rfl rfl Try.func22 (by kernel_rfl) rfl #[.agg #[.int .i64 a0_0, .slice A0_1 l0_1.length c0_1, .int .i64 a0_2], .int .i64 1048576] rfl (by (try simp only [List.map_toArray, List.map_cons, List.map_nil]); first | done | rfl | (simp only [List.length_drop, List.length_take]; rfl)) ?_; (with_reducible refine (laws_szDyadic.calls a0_0 _ _ l0_1 a0_2 1048576 t399 _ ?side1 ?side2 A3.out).mono ?_); (case side1 => repeat (first | exact (Kd.C_below HR0_1.out HB.out) | (with_reducible refine Kd.C_alloc ?_ _) | (with_reducible refine Kd.C_drewN ?_ _) | (with_reducible refine Kd.C_drew ?_))); (case side2 => exact HC0_1.out); rintro e w9 ⟨rfl, hb⟩; refine ⟨_, rfl, ?_⟩; have n0_ := Aside0.mk (blk_below (g := gb397) (o := .cells #[.int .i64 a0_0, .slice A0_1 l0_1.length c0_1, .int .i64 a0_2] 26 (0, 0)) (by (with_reducible repeat (first | refine blk_drewN ?_ _ | refine blk_drew ?_ | refine blk_alloc ?_ _)); exact BK397.out) hb); have n1_ := Aside0.mk (blk_below (g := gb398) (o := .cells #[.int .i64 a1_0, .slice A1_1 l1_1.length c1_1, .int .i64 a1_2] 26 (0, 0)) (by (with_reducible repeat (first | refine blk_drewN ?_ _ | refine blk_drew ?_ | refine blk_alloc ?_ _)); exact BK398.out) hb); have n2_ := Aside0.mk (below_step (by repeat (first | (with_reducible first | exact HB.out | apply below_alloc | apply pw_below_drewN | apply below_drew1 | refine below_set ?_ GE397.out | refine below_set ?_ GE398.out) | exact HB.out)) hb); clear BK397; clear BK398; clear HB; have BK397 := n0_; have BK398 := n1_; have HB := n2_; clear n0_ n1_ n2_; (try clear hb); (try clear hb2); (try clear hk); (try clear hi)))
    go_ret
    exact ⟨by first | rfl | (simp [errW_none, errW_some] <;> rfl) | (simp [*, errW_none, errW_some] <;> rfl), by repeat (first | (with_reducible first | exact HB.out | apply below_alloc | apply pw_below_drewN | apply below_drew1 | refine below_set ?_ GE397.out | refine below_set ?_ GE398.out) | exact HB.out)⟩
  · rw [if_neg c4] at H
    have c4b0 : decide (t399 < 0) = false := decide_eq_false c4
    clear c4
    replace H := Option.bind_eq_some_iff.mp H
    obtain ⟨t400, A100, H⟩ := H
    replace H : (if t400 < 0 then (some true) else ((laws_toDyadic.f k a0_0 l0_1 a0_2).bind fun bt401 => ((laws_toDyadic.f k a1_0 l1_1 a1_2).bind fun bt406 => ((spec_CompareDyadics.f k bt401.1 bt401.2.1 bt401.2.2 bt406.1 bt406.2.1 bt406.2.2).bind fun bt411 => ((laws_toDyadic.f k a0_0 l0_1 a0_2).bind fun bt413 => ((laws_toDyadic.f k a1_0 l1_1 a1_2).bind fun bt419 => ((impl_CompareDyadics.f bt413.1 bt413.2.1 bt413.2.2 bt419.1 bt419.2.1 bt419.2.2).bind fun bt425 => (if bt425.1 = bt411.1 then (laws_FnExactCompareDyadics.j0 k (bt425.2 != bt411.2) a0_0 l0_1 a0_2 a1_0 l1_1 a1_2 bt413.1 bt413.2.1 bt413.2.2 bt419.1 bt419.2.1 bt419.2.2) else (laws_FnExactCompareDyadics.j0 k true a0_0 l0_1 a0_2 a1_0 l1_1 a1_2 bt413.1 bt413.2.1 bt413.2.2 bt419.1 bt419.2.1 bt419.2.2))))))))) = some r := H
    have A10 := Aside0.mk A100
    clear A100
    by_cases c11 : t400 < 0
    · rw [if_pos c11] at H
      have c11b0 : decide (t400 < 0) = true := decide_eq_true c11
      clear c11
      obtain rfl := Option.some.inj H
      go_enter Try.func6, Try.ntmps6
      go_wp2_with (first | ((with_reducible refine gate_dst (N := 2) rfl ?_); refine box_event ?hg (N := 2) ?hd (cs := #[.int .i64 a0_0, .slice A0_1 l0_1.length c0_1, .int .i64 a0_2]) (t := 26) ?hr ?_; (case hd => rfl); (case hg => rfl); (case hr => first | (go_simp; done) | (go_simp; rfl)); intro gb397 hg w12 hbox hb; have n0_ := Aside0.mk (below_step (by repeat (first | (with_reducible first | exact HB.out | apply below_alloc | apply pw_below_drewN | apply below_drew1) | exact HB.out)) hb); have n1_ := Aside0.mk (hbox); have n2_ := Aside0.mk ((by rw [hg]; exact (below_size (by repeat (first | (with_reducible first | exact HB.out | apply below_alloc | apply pw_below_drewN | apply below_drew1) | exact HB.out))) : w.heap.size ≤ gb397)); have n3_ := Aside0.mk ((by rw [hg]; exact (below_size (by repeat (first | (with_reducible first | exact HB.out | apply below_alloc | apply pw_below_drewN | apply below_drew1) | exact HB.out))) : w.heap.size ≤ gb397)); clear HB; have HB := n0_; have BK397 := n1_; have GW397 := n2_; have GE397 := n3_; clear n0_ n1_ n2_ n3_; clear hb hbox hg) | ((with_reducible refine gate_dst (N := 3) rfl ?_); refine box_event ?hg (N := 3) ?hd (cs := #[.int .i64 a1_0, .slice A1_1 l1_1.length c1_1, .int .i64 a1_2]) (t := 26) ?hr ?_; (case hd => rfl); (case hg => rfl); (case hr => first | (go_simp; done) | (go_simp; rfl)); intro gb398 hg w13 hbox hb; have n0_ := Aside0.mk (blk_below (g := gb397) (o := .cells #[.int .i64 a0_0, .slice A0_1 l0_1.length c0_1, .int .i64 a0_2] 26 (0, 0)) (by (with_reducible repeat (first | refine blk_drewN ?_ _ | refine blk_drew ?_ | refine blk_alloc ?_ _)); exact BK397.out) hb); have n1_ := Aside0.mk (below_step (by repeat (first | (with_reducible first | exact HB.out | apply below_alloc | apply pw_below_drewN | apply below_drew1 | refine below_set ?_ GE397.out) | exact HB.out)) hb); have n2_ := Aside0.mk (hbox); have n3_ := Aside0.mk ((by rw [hg]; exact (below_size (by repeat (first | (with_reducible first | exact HB.out | apply below_alloc | apply pw_below_drewN | apply below_drew1 | refine below_set ?_ GE397.out) | exact HB.out))) : w.heap.size ≤ gb398)); have n4_ := Aside0.mk ((by rw [hg]; exact (below_size (by repeat (first | (with_reducible first | exact HB.out | apply below_alloc | apply pw_below_drewN | apply below_drew1 | refine below_set ?_ GE397.out) | exact HB.out))) : w.heap.size ≤ gb398)); have n5_ := Aside0.mk ((by rw [hg]; exact Nat.ne_of_lt (blk_lt (g := gb397) (o := .cells #[.int .i64 a0_0, .slice A0_1 l0_1.length c0_1, .int .i64 a0_2] 26 (0, 0)) (by (with_reducible repeat (first | refine blk_drewN ?_ _ | refine blk_drew ?_ | refine blk_alloc ?_ _)); exact BK397.out)) : gb397 ≠ gb398)); have n6_ := Aside0.mk ((by rw [hg]; exact Nat.ne_of_gt (blk_lt (g := gb397) (o := .cells #[.int .i64 a0_0, .slice A0_1 l0_1.length c0_1, .int .i64 a0_2] 26 (0, 0)) (by (with_reducible repeat (first | refine blk_drewN ?_ _ | refine blk_drew ?_ | refine blk_alloc ?_ _)); exact BK397.out)) : gb398 ≠ gb397)); clear BK397; clear HB; have BK397 := n0_; have HB := n1_; have BK398 := n2_; have GW398 := n3_; have GE398 := n4_; have NB397_398 := n5_; have NB398_397 := n6_; clear n0_ n1_ n2_ n3_ n4_ n5_ n6_; clear hb hbox hg; have hnb14 := NB397_398.out; have hnc14 := NB398_397.out; have hcz15_0 : w13.cell? ⟨gb397, 0, none⟩ = some (.int .i64 a0_0) := (blk_cell BK397.out 0).trans rfl; have hcz15_1 : w13.cell? ⟨gb397, 1, none⟩ = some (.slice A0_1 l0_1.length c0_1) := (blk_cell BK397.out 1).trans rfl; have hcz15_2 : w13.cell? ⟨gb397, 2, none⟩ = some (.int .i64 a0_2) := (blk_cell BK397.out 2).trans rfl; have hfz15_0 := blk_frozen BK397.out 0; have hfz15_1 := blk_frozen BK397.out 1; have hfz15_2 := blk_frozen BK397.out 2) | ((with_reducible refine gate_callee (f := 22) rfl ?_); refine goesL_ (some 14) rfl rfl Try.func22 (by kernel_rfl) rfl #[.agg #[.int .i64 a0_0, .slice A0_1 l0_1.length c0_1, .int .i64 a0_2], .int .i64 1048576] rfl (by (try simp only [List.map_toArray, List.map_cons, List.map_nil]); first | done | rfl | (simp only [List.length_drop, List.length_take]; rfl)) ?_; (with_reducible refine (laws_szDyadic.calls a0_0 _ _ l0_1 a0_2 1048576 t399 _ ?side1 ?side2 A3.out).mono ?_); (case side1 => repeat (first | exact (Kd.C_below HR0_1.out HB.out) | (with_reducible refine Kd.C_alloc ?_ _) | (with_reducible refine Kd.C_drewN ?_ _) | (with_reducible refine Kd.C_drew ?_))); (case side2 => exact HC0_1.out); rintro e w16 ⟨rfl, hb⟩; refine ⟨_, rfl, ?_⟩; have n0_ := Aside0.mk (blk_below (g := gb397) (o := .cells #[.int .i64 a0_0, .slice A0_1 l0_1.length c0_1, .int .i64 a0_2] 26 (0, 0)) (by (with_reducible repeat (first | refine blk_drewN ?_ _ | refine blk_drew ?_ | refine blk_alloc ?_ _)); exact BK397.out) hb); have n1_ := Aside0.mk (blk_below (g := gb398) (o := .cells #[.int .i64 a1_0, .slice A1_1 l1_1.length c1_1, .int .i64 a1_2] 26 (0, 0)) (by (with_reducible repeat (first | refine blk_drewN ?_ _ | refine blk_drew ?_ | refine blk_alloc ?_ _)); exact BK398.out) hb); have n2_ := Aside0.mk (below_step (by repeat (first | (with_reducible first | exact HB.out | apply below_alloc | apply pw_below_drewN | apply below_drew1 | refine below_set ?_ GE397.out | refine below_set ?_ GE398.out) | exact HB.out)) hb); clear BK397; clear BK398; clear HB; have BK397 := n0_; have BK398 := n1_; have HB := n2_; clear n0_ n1_ n2_; (try clear hb); (try clear hb2); (try clear hk); (try clear hi); have hcz17_0 : w16.cell? ⟨gb398, 0, none⟩ = some (.int .i64 a1_0) := (blk_cell BK398.out 0).trans rfl; have hcz17_1 : w16.cell? ⟨gb398, 1, none⟩ = some (.slice A1_1 l1_1.length c1_1) := (blk_cell BK398.out 1).trans rfl; have hcz17_2 : w16.cell? ⟨gb398, 2, none⟩ = some (.int .i64 a1_2) := (blk_cell BK398.out 2).trans rfl; have hfz17_0 := blk_frozen BK398.out 0; have hfz17_1 := blk_frozen BK398.out 1; have hfz17_2 := blk_frozen BK398.out 2) | ((with_reducible refine gate_callee (f := 22) rfl ?_); refine goesL_ (some 19) rfl rfl Try.func22 (by kernel_rfl) rfl #[.agg #[.int .i64 a1_0, .slice A1_1 l1_1.length c1_1, .int .i64 a1_2], .int .i64 t399] rfl (by (try simp only [List.map_toArray, List.map_cons, List.map_nil]); first | done | rfl | (simp only [List.length_drop, List.length_take]; rfl)) ?_; (with_reducible refine (laws_szDyadic.calls a1_0 _ _ l1_1 a1_2 t399 t400 _ ?side1 ?side2 A10.out).mono ?_); (case side1 => repeat (first | exact (Kd.C_below HR1_1.out HB.out) | (with_reducible refine Kd.C_alloc ?_ _) | (with_reducible refine Kd.C_drewN ?_ _) | (with_reducible refine Kd.C_drew ?_))); (case side2 => exact HC1_1.out); rintro e w18 ⟨rfl, hb⟩; refine ⟨_, rfl, ?_⟩; have n0_ := Aside0.mk (blk_below (g := gb397) (o := .cells #[.int .i64 a0_0, .slice A0_1 l0_1.length c0_1, .int .i64 a0_2] 26 (0, 0)) (by (with_reducible repeat (first | refine blk_drewN ?_ _ | refine blk_drew ?_ | refine blk_alloc ?_ _)); exact BK397.out) hb); have n1_ := Aside0.mk (blk_below (g := gb398) (o := .cells #[.int .i64 a1_0, .slice A1_1 l1_1.length c1_1, .int .i64 a1_2] 26 (0, 0)) (by (with_reducible repeat (first | refine blk_drewN ?_ _ | refine blk_drew ?_ | refine blk_alloc ?_ _)); exact BK398.out) hb); have n2_ := Aside0.mk (below_step (by repeat (first | (with_reducible first | exact HB.out | apply below_alloc | apply pw_below_drewN | apply below_drew1 | refine below_set ?_ GE397.out | refine below_set ?_ GE398.out) | exact HB.out)) hb); clear BK397; clear BK398; clear HB; have BK397 := n0_; have BK398 := n1_; have HB := n2_; clear n0_ n1_ n2_; (try clear hb); (try clear hb2); (try clear hk); (try clear hi)))
      go_ret
      exact ⟨by first | rfl | (simp [errW_none, errW_some] <;> rfl) | (simp [*, errW_none, errW_some] <;> rfl), by repeat (first | (with_reducible first | exact HB.out | apply below_alloc | apply pw_below_drewN | apply below_drew1 | refine below_set ?_ GE397.out | refine below_set ?_ GE398.out) | exact HB.out)⟩
    · rw [if_neg c11] at H
      have c11b0 : decide (t400 < 0) = false := decide_eq_false c11
      clear c11
      replace H := Option.bind_eq_some_iff.mp H
      obtain ⟨⟨t401, t402, t405⟩, A190, H⟩ := H
      replace H : ((laws_toDyadic.f k a1_0 l1_1 a1_2).bind fun bt406 => ((spec_CompareDyadics.f k t401 t402 t405 bt406.1 bt406.2.1 bt406.2.2).bind fun bt411 => ((laws_toDyadic.f k a0_0 l0_1 a0_2).bind fun bt413 => ((laws_toDyadic.f k a1_0 l1_1 a1_2).bind fun bt419 => ((impl_CompareDyadics.f bt413.1 bt413.2.1 bt413.2.2 bt419.1 bt419.2.1 bt419.2.2).bind fun bt425 => (if bt425.1 = bt411.1 then (laws_FnExactCompareDyadics.j0 k (bt425.2 != bt411.2) a0_0 l0_1 a0_2 a1_0 l1_1 a1_2 bt413.1 bt413.2.1 bt413.2.2 bt419.1 bt419.2.1 bt419.2.2) else (laws_FnExactCompareDyadics.j0 k true a0_0 l0_1 a0_2 a1_0 l1_1 a1_2 bt413.1 bt413.2.1 bt413.2.2 bt419.1 bt419.2.1 bt419.2.2))))))) = some r := H
      have A19 := Aside0.mk A190
      clear A190
      replace H := Option.bind_eq_some_iff.mp H
      obtain ⟨⟨t406, t407, t410⟩, A200, H⟩ := H
      replace H : ((spec_CompareDyadics.f k t401 t402 t405 t406 t407 t410).bind fun bt411 => ((laws_toDyadic.f k a0_0 l0_1 a0_2).bind fun bt413 => ((laws_toDyadic.f k a1_0 l1_1 a1_2).bind fun bt419 => ((impl_CompareDyadics.f bt413.1 bt413.2.1 bt413.2.2 bt419.1 bt419.2.1 bt419.2.2).bind fun bt425 => (if bt425.1 = bt411.1 then (laws_FnExactCompareDyadics.j0 k (bt425.2 != bt411.2) a0_0 l0_1 a0_2 a1_0 l1_1 a1_2 bt413.1 bt413.2.1 bt413.2.2 bt419.1 bt419.2.1 bt419.2.2) else (laws_FnExactCompareDyadics.j0 k true a0_0 l0_1 a0_2 a1_0 l1_1 a1_2 bt413.1 bt413.2.1 bt413.2.2 bt419.1 bt419.2.1 bt419.2.2)))))) = some r := H
      have A20 := Aside0.mk A200
      clear A200
      replace H := Option.bind_eq_some_iff.mp H
      obtain ⟨⟨t411, t412⟩, A210, H⟩ := H
      replace H : ((laws_toDyadic.f k a0_0 l0_1 a0_2).bind fun bt413 => ((laws_toDyadic.f k a1_0 l1_1 a1_2).bind fun bt419 => ((impl_CompareDyadics.f bt413.1 bt413.2.1 bt413.2.2 bt419.1 bt419.2.1 bt419.2.2).bind fun bt425 => (if bt425.1 = t411 then (laws_FnExactCompareDyadics.j0 k (bt425.2 != t412) a0_0 l0_1 a0_2 a1_0 l1_1 a1_2 bt413.1 bt413.2.1 bt413.2.2 bt419.1 bt419.2.1 bt419.2.2) else (laws_FnExactCompareDyadics.j0 k true a0_0 l0_1 a0_2 a1_0 l1_1 a1_2 bt413.1 bt413.2.1 bt413.2.2 bt419.1 bt419.2.1 bt419.2.2))))) = some r := H
      have A21 := Aside0.mk A210
      clear A210
      replace H := Option.bind_eq_some_iff.mp H
      obtain ⟨⟨t413, t414, t417⟩, A220, H⟩ := H
      replace H : ((laws_toDyadic.f k a1_0 l1_1 a1_2).bind fun bt419 => ((impl_CompareDyadics.f t413 t414 t417 bt419.1 bt419.2.1 bt419.2.2).bind fun bt425 => (if bt425.1 = t411 then (laws_FnExactCompareDyadics.j0 k (bt425.2 != t412) a0_0 l0_1 a0_2 a1_0 l1_1 a1_2 t413 t414 t417 bt419.1 bt419.2.1 bt419.2.2) else (laws_FnExactCompareDyadics.j0 k true a0_0 l0_1 a0_2 a1_0 l1_1 a1_2 t413 t414 t417 bt419.1 bt419.2.1 bt419.2.2)))) = some r := H
      have A22 := Aside0.mk A220
      clear A220
      replace H := Option.bind_eq_some_iff.mp H
      obtain ⟨⟨t419, t420, t423⟩, A230, H⟩ := H
      replace H : ((impl_CompareDyadics.f t413 t414 t417 t419 t420 t423).bind fun bt425 => (if bt425.1 = t411 then (laws_FnExactCompareDyadics.j0 k (bt425.2 != t412) a0_0 l0_1 a0_2 a1_0 l1_1 a1_2 t413 t414 t417 t419 t420 t423) else (laws_FnExactCompareDyadics.j0 k true a0_0 l0_1 a0_2 a1_0 l1_1 a1_2 t413 t414 t417 t419 t420 t423))) = some r := H
      have A23 := Aside0.mk A230
      clear A230
      replace H := Option.bind_eq_some_iff.mp H
      obtain ⟨⟨t425, t426⟩, A240, H⟩ := H
      replace H : (if t425 = t411 then (laws_FnExactCompareDyadics.j0 k (t426 != t412) a0_0 l0_1 a0_2 a1_0 l1_1 a1_2 t413 t414 t417 t419 t420 t423) else (laws_FnExactCompareDyadics.j0 k true a0_0 l0_1 a0_2 a1_0 l1_1 a1_2 t413 t414 t417 t419 t420 t423)) = some r := H
      have A24 := Aside0.mk A240
      clear A240
      have HC25 := Aside0.mk H
      clear H
      go_enter Try.func6, Try.ntmps6
      try go_wp2_with (first | ((with_reducible refine gate_dst (N := 2) rfl ?_); refine box_event ?hg (N := 2) ?hd (cs := #[.int .i64 a0_0, .slice A0_1 l0_1.length c0_1, .int .i64 a0_2]) (t := 26) ?hr ?_; (case hd => rfl); (case hg => rfl); (case hr => first | (go_simp; done) | (go_simp; rfl)); intro gb397 hg w26 hbox hb; have n0_ := Aside0.mk (below_step (by repeat (first | (with_reducible first | exact HB.out | apply below_alloc | apply pw_below_drewN | apply below_drew1) | exact HB.out)) hb); have n1_ := Aside0.mk (hbox); have n2_ := Aside0.mk ((by rw [hg]; exact (below_size (by repeat (first | (with_reducible first | exact HB.out | apply below_alloc | apply pw_below_drewN | apply below_drew1) | exact HB.out))) : w.heap.size ≤ gb397)); have n3_ := Aside0.mk ((by rw [hg]; exact (below_size (by repeat (first | (with_reducible first | exact HB.out | apply below_alloc | apply pw_below_drewN | apply below_drew1) | exact HB.out))) : w.heap.size ≤ gb397)); clear HB; have HB := n0_; have BK397 := n1_; have GW397 := n2_; have GE397 := n3_; clear n0_ n1_ n2_ n3_; clear hb hbox hg) | ((with_reducible refine gate_dst (N := 3) rfl ?_); refine box_event ?hg (N := 3) ?hd (cs := #[.int .i64 a1_0, .slice A1_1 l1_1.length c1_1, .int .i64 a1_2]) (t := 26) ?hr ?_; (case hd => rfl); (case hg => rfl); (case hr => first | (go_simp; done) | (go_simp; rfl)); intro gb398 hg w27 hbox hb; have n0_ := Aside0.mk (blk_below (g := gb397) (o := .cells #[.int .i64 a0_0, .slice A0_1 l0_1.length c0_1, .int .i64 a0_2] 26 (0, 0)) (by (with_reducible repeat (first | refine blk_drewN ?_ _ | refine blk_drew ?_ | refine blk_alloc ?_ _)); exact BK397.out) hb); have n1_ := Aside0.mk (below_step (by repeat (first | (with_reducible first | exact HB.out | apply below_alloc | apply pw_below_drewN | apply below_drew1 | refine below_set ?_ GE397.out) | exact HB.out)) hb); have n2_ := Aside0.mk (hbox); have n3_ := Aside0.mk ((by rw [hg]; exact (below_size (by repeat (first | (with_reducible first | exact HB.out | apply below_alloc | apply pw_below_drewN | apply below_drew1 | refine below_set ?_ GE397.out) | exact HB.out))) : w.heap.size ≤ gb398)); have n4_ := Aside0.mk ((by rw [hg]; exact (below_size (by repeat (first | (with_reducible first | exact HB.out | apply below_alloc | apply pw_below_drewN | apply below_drew1 | refine below_set ?_ GE397.out) | exact HB.out))) : w.heap.size ≤ gb398)); have n5_ := Aside0.mk ((by rw [hg]; exact Nat.ne_of_lt (blk_lt (g := gb397) (o := .cells #[.int .i64 a0_0, .slice A0_1 l0_1.length c0_1, .int .i64 a0_2] 26 (0, 0)) (by (with_reducible repeat (first | refine blk_drewN ?_ _ | refine blk_drew ?_ | refine blk_alloc ?_ _)); exact BK397.out)) : gb397 ≠ gb398)); have n6_ := Aside0.mk ((by rw [hg]; exact Nat.ne_of_gt (blk_lt (g := gb397) (o := .cells #[.int .i64 a0_0, .slice A0_1 l0_1.length c0_1, .int .i64 a0_2] 26 (0, 0)) (by (with_reducible repeat (first | refine blk_drewN ?_ _ | refine blk_drew ?_ | refine blk_alloc ?_ _)); exact BK397.out)) : gb398 ≠ gb397)); clear BK397; clear HB; have BK397 := n0_; have HB := n1_; have BK398 := n2_; have GW398 := n3_; have GE398 := n4_; have NB397_398 := n5_; have NB398_397 := n6_; clear n0_ n1_ n2_ n3_ n4_ n5_ n6_; clear hb hbox hg; have hnb28 := NB397_398.out; have hnc28 := NB398_397.out; have hcz29_0 : w27.cell? ⟨gb397, 0, none⟩ = some (.int .i64 a0_0) := (blk_cell BK397.out 0).trans rfl; have hcz29_1 : w27.cell? ⟨gb397, 1, none⟩ = some (.slice A0_1 l0_1.length c0_1) := (blk_cell BK397.out 1).trans rfl; have hcz29_2 : w27.cell? ⟨gb397, 2, none⟩ = some (.int .i64 a0_2) := (blk_cell BK397.out 2).trans rfl; have hfz29_0 := blk_frozen BK397.out 0; have hfz29_1 := blk_frozen BK397.out 1; have hfz29_2 := blk_frozen BK397.out 2) | ((with_reducible refine gate_callee (f := 22) rfl ?_); refine goesL_ (some 14) rfl rfl Try.func22 (by kernel_rfl) rfl #[.agg #[.int .i64 a0_0, .slice A0_1 l0_1.length c0_1, .int .i64 a0_2], .int .i64 1048576] rfl (by (try simp only [List.map_toArray, List.map_cons, List.map_nil]); first | done | rfl | (simp only [List.length_drop, List.length_take]; rfl)) ?_; (with_reducible refine (laws_szDyadic.calls a0_0 _ _ l0_1 a0_2 1048576 t399 _ ?side1 ?side2 A3.out).mono ?_); (case side1 => repeat (first | exact (Kd.C_below HR0_1.out HB.out) | (with_reducible refine Kd.C_alloc ?_ _) | (with_reducible refine Kd.C_drewN ?_ _) | (with_reducible refine Kd.C_drew ?_))); (case side2 => exact HC0_1.out); rintro e w30 ⟨rfl, hb⟩; refine ⟨_, rfl, ?_⟩; have n0_ := Aside0.mk (blk_below (g := gb397) (o := .cells #[.int .i64 a0_0, .slice A0_1 l0_1.length c0_1, .int .i64 a0_2] 26 (0, 0)) (by (with_reducible repeat (first | refine blk_drewN ?_ _ | refine blk_drew ?_ | refine blk_alloc ?_ _)); exact BK397.out) hb); have n1_ := Aside0.mk (blk_below (g := gb398) (o := .cells #[.int .i64 a1_0, .slice A1_1 l1_1.length c1_1, .int .i64 a1_2] 26 (0, 0)) (by (with_reducible repeat (first | refine blk_drewN ?_ _ | refine blk_drew ?_ | refine blk_alloc ?_ _)); exact BK398.out) hb); have n2_ := Aside0.mk (below_step (by repeat (first | (with_reducible first | exact HB.out | apply below_alloc | apply pw_below_drewN | apply below_drew1 | refine below_set ?_ GE397.out | refine below_set ?_ GE398.out) | exact HB.out)) hb); clear BK397; clear BK398; clear HB; have BK397 := n0_; have BK398 := n1_; have HB := n2_; clear n0_ n1_ n2_; (try clear hb); (try clear hb2); (try clear hk); (try clear hi); have hcz31_0 : w30.cell? ⟨gb398, 0, none⟩ = some (.int .i64 a1_0) := (blk_cell BK398.out 0).trans rfl; have hcz31_1 : w30.cell? ⟨gb398, 1, none⟩ = some (.slice A1_1 l1_1.length c1_1) := (blk_cell BK398.out 1).trans rfl; have hcz31_2 : w30.cell? ⟨gb398, 2, none⟩ = some (.int .i64 a1_2) := (blk_cell BK398.out 2).trans rfl; have hfz31_0 := blk_frozen BK398.out 0; have hfz31_1 := blk_frozen BK398.out 1; have hfz31_2 := blk_frozen BK398.out 2) | ((with_reducible refine gate_callee (f := 22) rfl ?_); refine goesL_ (some 19) rfl rfl Try.func22 (by kernel_rfl) rfl #[.agg #[.int .i64 a1_0, .slice A1_1 l1_1.length c1_1, .int .i64 a1_2], .int .i64 t399] rfl (by (try simp only [List.map_toArray, List.map_cons, List.map_nil]); first | done | rfl | (simp only [List.length_drop, List.length_take]; rfl)) ?_; (with_reducible refine (laws_szDyadic.calls a1_0 _ _ l1_1 a1_2 t399 t400 _ ?side1 ?side2 A10.out).mono ?_); (case side1 => repeat (first | exact (Kd.C_below HR1_1.out HB.out) | (with_reducible refine Kd.C_alloc ?_ _) | (with_reducible refine Kd.C_drewN ?_ _) | (with_reducible refine Kd.C_drew ?_))); (case side2 => exact HC1_1.out); rintro e w32 ⟨rfl, hb⟩; refine ⟨_, rfl, ?_⟩; have n0_ := Aside0.mk (blk_below (g := gb397) (o := .cells #[.int .i64 a0_0, .slice A0_1 l0_1.length c0_1, .int .i64 a0_2] 26 (0, 0)) (by (with_reducible repeat (first | refine blk_drewN ?_ _ | refine blk_drew ?_ | refine blk_alloc ?_ _)); exact BK397.out) hb); have n1_ := Aside0.mk (blk_below (g := gb398) (o := .cells #[.int .i64 a1_0, .slice A1_1 l1_1.length c1_1, .int .i64 a1_2] 26 (0, 0)) (by (with_reducible repeat (first | refine blk_drewN ?_ _ | refine blk_drew ?_ | refine blk_alloc ?_ _)); exact BK398.out) hb); have n2_ := Aside0.mk (below_step (by repeat (first | (with_reducible first | exact HB.out | apply below_alloc | apply pw_below_drewN | apply below_drew1 | refine below_set ?_ GE397.out | refine below_set ?_ GE398.out) | exact HB.out)) hb); clear BK397; clear BK398; clear HB; have BK397 := n0_; have BK398 := n1_; have HB := n2_; clear n0_ n1_ n2_; (try clear hb); (try clear hb2); (try clear hk); (try clear hi)))
      have n0_ := Aside0.mk (blk_drew BK397.out)
      have n1_ := Aside0.mk (blk_drew BK398.out)
      have n2_ := Aside0.mk (below_drew1 HB.out)
      clear BK397
      clear BK398
      clear HB
      have BK397 := n0_
      have BK398 := n1_
      have HB := n2_
      clear n0_ n1_ n2_
      refine start_ (n := 10) (S := fun w' => w'.cell? ⟨gb397, 0, none⟩ = some (.int .i64 a0_0) ∧ w'.cell? ⟨gb397, 1, none⟩ = some (.slice A0_1 l0_1.length c0_1) ∧ w'.cell? ⟨gb397, 2, none⟩ = some (.int .i64 a0_2) ∧ w'.cell? ⟨gb398, 0, none⟩ = some (.int .i64 a1_0) ∧ w'.cell? ⟨gb398, 1, none⟩ = some (.slice A1_1 l1_1.length c1_1) ∧ w'.cell? ⟨gb398, 2, none⟩ = some (.int .i64 a1_2)) (ds := []) #[false, false, false, false, false, false, false, false, false, false] (by kernel_rfl) rfl rfl ⟨(blk_cell BK397.out 0).trans rfl, (blk_cell BK397.out 1).trans rfl, (blk_cell BK397.out 2).trans rfl, (blk_cell BK398.out 0).trans rfl, (blk_cell BK398.out 1).trans rfl, (blk_cell BK398.out 2).trans rfl⟩ (fun hHeld => ?_); refine with_tabW laws_FnExactCompareDyadics.tab8 laws_FnExactCompareDyadics.bits8 (fun HT_ HW_ => ?_)
      generalize w32.drew = w33 at BK397 BK398 HB hHeld ⊢
      refine take_ (i := 0) (N := some 23) (v := ?_) (a' := ?_) #[true, false, false, false, false, false, false, false, false, false] rfl rfl (take_ofW HT_.out HW_.out (by kernel_rfl)) (fun _ _ _ h => h) (Or.inl ⟨by rfl, ?_⟩) hHeld ?_ ?_
      rotate_left
      · rintro w' ⟨s0, s1, s2, s3, s4, s5⟩
        go_simp
        with_reducible rfl
      rotate_left
      · simp only [Act.put, List.setIfInBounds_toArray, List.set_cons_zero, List.set_cons_succ, i64_w, i32_w]
        rfl
      refine take_ (i := 2) (N := some 25) (v := ?_) (a' := ?_) #[true, false, true, false, false, false, false, false, false, false] rfl rfl (take_ofW HT_.out HW_.out (by kernel_rfl)) (fun _ _ _ h => h) (Or.inl ⟨by rfl, ?_⟩) hHeld ?_ ?_
      rotate_left
      · rintro w' ⟨s0, s1, s2, s3, s4, s5⟩
        go_simp
        with_reducible rfl
      rotate_left
      · simp only [Act.put, List.setIfInBounds_toArray, List.set_cons_zero, List.set_cons_succ, i64_w, i32_w]
        rfl
      refine one_ (i := 1) (N := some 24) #[true, true, true, false, false, false, false, false, false, false] rfl rfl (one_of HT_.out (by kernel_rfl)) (by decide) (fun K hK => ?_)
      refine goes_ Try.func24 (by kernel_rfl) rfl #[.agg #[.int .i64 a0_0, .slice A0_1 l0_1.length c0_1, .int .i64 a0_2]] (by rfl) rfl rfl (by (try simp only [List.map_toArray, List.map_cons, List.map_nil]); first | done | rfl | (simp only [List.length_drop, List.length_take]; rfl)) ?_
      with_reducible refine (laws_toDyadic.calls k a0_0 _ _ l0_1 a0_2 t401 t402 t405 _ ?side1 ?side2 A19.out).mono ?_
      (case side1 => repeat (first | exact (Kd.C_below HR0_1.out HB.out) | (with_reducible refine Kd.C_alloc ?_ _) | (with_reducible refine Kd.C_drewN ?_ _) | (with_reducible refine Kd.C_drew ?_)))
      (case side2 => exact HC0_1.out)
      rintro e w34 ⟨v403, rfl, ho0, hb⟩
      refine ⟨_, rfl, ?_⟩
      have n0_ := Aside0.mk (Kd.R_lower ho0 (below_size (by repeat (first | (with_reducible first | exact HB.out | apply below_alloc | apply pw_below_drewN | apply below_drew1 | refine below_set ?_ GE397.out | refine below_set ?_ GE398.out) | exact HB.out))))
      have n1_ := Aside0.mk (blk_below (g := gb397) (o := .cells #[.int .i64 a0_0, .slice A0_1 l0_1.length c0_1, .int .i64 a0_2] 26 (0, 0)) (by (with_reducible repeat (first | refine blk_drewN ?_ _ | refine blk_drew ?_ | refine blk_alloc ?_ _)); exact BK397.out) hb)
      have n2_ := Aside0.mk (blk_below (g := gb398) (o := .cells #[.int .i64 a1_0, .slice A1_1 l1_1.length c1_1, .int .i64 a1_2] 26 (0, 0)) (by (with_reducible repeat (first | refine blk_drewN ?_ _ | refine blk_drew ?_ | refine blk_alloc ?_ _)); exact BK398.out) hb)
      have n3_ := Aside0.mk (below_step (by repeat (first | (with_reducible first | exact HB.out | apply below_alloc | apply pw_below_drewN | apply below_drew1 | refine below_set ?_ GE397.out | refine below_set ?_ GE398.out) | exact HB.out)) hb)
      clear BK397
      clear BK398
      clear HB
      have HO404 := n0_
      have BK397 := n1_
      have BK398 := n2_
      have HB := n3_
      clear n0_ n1_ n2_ n3_
      (try clear hb)
      (try clear hb2)
      (try clear hk)
      (try clear hi)
      (try clear ho0)
      refine hK.out _ _ ⟨(blk_cell BK397.out 0).trans rfl, (blk_cell BK397.out 1).trans rfl, (blk_cell BK397.out 2).trans rfl, (blk_cell BK398.out 0).trans rfl, (blk_cell BK398.out 1).trans rfl, (blk_cell BK398.out 2).trans rfl⟩ (fun hHeld => ?_)
      clear hK K
      refine norm_ (a' := ?_) ?_ ?_
      rotate_left
      · show Act.put _ (some 24) _ = _
        simp only [Act.put, List.setIfInBounds_toArray, List.set_cons_zero, List.set_cons_succ, i64_w, i32_w]
        rfl
      refine one_ (i := 3) (N := some 26) #[true, true, true, true, false, false, false, false, false, false] rfl rfl (one_of HT_.out (by kernel_rfl)) (by decide) (fun K hK => ?_)
      refine goes_ Try.func24 (by kernel_rfl) rfl #[.agg #[.int .i64 a1_0, .slice A1_1 l1_1.length c1_1, .int .i64 a1_2]] (by rfl) rfl rfl (by (try simp only [List.map_toArray, List.map_cons, List.map_nil]); first | done | rfl | (simp only [List.length_drop, List.length_take]; rfl)) ?_
      with_reducible refine (laws_toDyadic.calls k a1_0 _ _ l1_1 a1_2 t406 t407 t410 _ ?side1 ?side2 A20.out).mono ?_
      (case side1 => repeat (first | exact (Kd.C_below HR1_1.out HB.out) | (with_reducible refine Kd.C_alloc ?_ _) | (with_reducible refine Kd.C_drewN ?_ _) | (with_reducible refine Kd.C_drew ?_)))
      (case side2 => exact HC1_1.out)
      rintro e w35 ⟨v408, rfl, ho0, hb⟩
      refine ⟨_, rfl, ?_⟩
      have n0_ := Aside0.mk (Kd.R_elder' (by (with_reducible repeat (first | apply Kd.R_alloc | apply Kd.R_drewN | apply Kd.R_drew)); exact HO404.out) (Kd.R_base ho0) hb)
      have n1_ := Aside0.mk (Kd.R_lower (Kd.R_new' ho0 (Kd.R_lt (by (with_reducible repeat (first | apply Kd.R_alloc | apply Kd.R_drewN | apply Kd.R_drew)); exact HO404.out))) (below_size (by repeat (first | (with_reducible first | exact HB.out | apply below_alloc | apply pw_below_drewN | apply below_drew1 | refine below_set ?_ GE397.out | refine below_set ?_ GE398.out) | exact HB.out))))
      have n2_ := Aside0.mk (blk_below (g := gb397) (o := .cells #[.int .i64 a0_0, .slice A0_1 l0_1.length c0_1, .int .i64 a0_2] 26 (0, 0)) (by (with_reducible repeat (first | refine blk_drewN ?_ _ | refine blk_drew ?_ | refine blk_alloc ?_ _)); exact BK397.out) hb)
      have n3_ := Aside0.mk (blk_below (g := gb398) (o := .cells #[.int .i64 a1_0, .slice A1_1 l1_1.length c1_1, .int .i64 a1_2] 26 (0, 0)) (by (with_reducible repeat (first | refine blk_drewN ?_ _ | refine blk_drew ?_ | refine blk_alloc ?_ _)); exact BK398.out) hb)
      have n4_ := Aside0.mk (below_step (by repeat (first | (with_reducible first | exact HB.out | apply below_alloc | apply pw_below_drewN | apply below_drew1 | refine below_set ?_ GE397.out | refine below_set ?_ GE398.out) | exact HB.out)) hb)
      clear HO404
      clear BK397
      clear BK398
      clear HB
      have HO404 := n0_
      have HO409 := n1_
      have BK397 := n2_
      have BK398 := n3_
      have HB := n4_
      clear n0_ n1_ n2_ n3_ n4_
      (try clear hb)
      (try clear hb2)
      (try clear hk)
      (try clear hi)
      (try clear ho0)
      obtain ⟨Ao36, co36, eo36⟩ := Kd.R_slice HO404.out
      (first | subst eo36 | (injection eo36 with f1_ f2_ f3_; have f4_ := f1_.symm; have f5_ := f3_.symm; clear f1_ f2_ f3_; subst f4_; subst f5_))
      obtain ⟨Ao37, co37, eo37⟩ := Kd.R_slice HO409.out
      (first | subst eo37 | (injection eo37 with f1_ f2_ f3_; have f4_ := f1_.symm; have f5_ := f3_.symm; clear f1_ f2_ f3_; subst f4_; subst f5_))
      refine hK.out _ _ ⟨(blk_cell BK397.out 0).trans rfl, (blk_cell BK397.out 1).trans rfl, (blk_cell BK397.out 2).trans rfl, (blk_cell BK398.out 0).trans rfl, (blk_cell BK398.out 1).trans rfl, (blk_cell BK398.out 2).trans rfl⟩ (fun hHeld => ?_)
      clear hK K
      refine norm_ (a' := ?_) ?_ ?_
      rotate_left
      · show Act.put _ (some 26) _ = _
        simp only [Act.put, List.setIfInBounds_toArray, List.set_cons_zero, List.set_cons_succ, i64_w, i32_w]
        rfl
      refine one_ (i := 4) (N := some 27) #[true, true, true, true, true, false, false, false, false, false] rfl rfl (one_of HT_.out (by kernel_rfl)) (by decide) (fun K hK => ?_)
      refine goes_ Try.func37 (by kernel_rfl) rfl #[.agg #[.int .i64 t401, .slice Ao36 t402.length co36, .int .i64 t405], .agg #[.int .i64 t406, .slice Ao37 t407.length co37, .int .i64 t410]] (by rfl) rfl rfl (by (try simp only [List.map_toArray, List.map_cons, List.map_nil]); first | done | rfl | (simp only [List.length_drop, List.length_take]; rfl)) ?_
      with_reducible refine (spec_CompareDyadics.calls k t401 _ _ t402 t405 t406 _ _ t407 t410 t411 t412 _ ?side1 ?side2 ?side3 ?side4 A21.out).mono ?_
      (case side1 => repeat (first | exact (Kd.R_reads' HO404.out).2.2 | (with_reducible refine Kd.C_alloc ?_ _) | (with_reducible refine Kd.C_drewN ?_ _) | (with_reducible refine Kd.C_drew ?_)))
      (case side2 => exact (Kd.R_reads' HO404.out).2.1)
      (case side3 => repeat (first | exact (Kd.R_reads' HO409.out).2.2 | (with_reducible refine Kd.C_alloc ?_ _) | (with_reducible refine Kd.C_drewN ?_ _) | (with_reducible refine Kd.C_drew ?_)))
      (case side4 => exact (Kd.R_reads' HO409.out).2.1)
      rintro e w38 ⟨rfl, hb⟩
      refine ⟨_, rfl, ?_⟩
      have n0_ := Aside0.mk (Kd.R_below (by (with_reducible repeat (first | apply Kd.R_alloc | apply Kd.R_drewN | apply Kd.R_drew)); exact HO404.out) hb)
      have n1_ := Aside0.mk (Kd.R_below (by (with_reducible repeat (first | apply Kd.R_alloc | apply Kd.R_drewN | apply Kd.R_drew)); exact HO409.out) hb)
      have n2_ := Aside0.mk (blk_below (g := gb397) (o := .cells #[.int .i64 a0_0, .slice A0_1 l0_1.length c0_1, .int .i64 a0_2] 26 (0, 0)) (by (with_reducible repeat (first | refine blk_drewN ?_ _ | refine blk_drew ?_ | refine blk_alloc ?_ _)); exact BK397.out) hb)
      have n3_ := Aside0.mk (blk_below (g := gb398) (o := .cells #[.int .i64 a1_0, .slice A1_1 l1_1.length c1_1, .int .i64 a1_2] 26 (0, 0)) (by (with_reducible repeat (first | refine blk_drewN ?_ _ | refine blk_drew ?_ | refine blk_alloc ?_ _)); exact BK398.out) hb)
      have n4_ := Aside0.mk (below_step (by repeat (first | (with_reducible first | exact HB.out | apply below_alloc | apply pw_below_drewN | apply below_drew1 | refine below_set ?_ GE397.out | refine below_set ?_ GE398.out) | exact HB.out)) hb)
      clear HO404
      clear HO409
      clear BK397
      clear BK398
      clear HB
      have HO404 := n0_
      have HO409 := n1_
      have BK397 := n2_
      have BK398 := n3_
      have HB := n4_
      clear n0_ n1_ n2_ n3_ n4_
      (try clear hb)
      (try clear hb2)
      (try clear hk)
      (try clear hi)
      refine hK.out _ _ ⟨(blk_cell BK397.out 0).trans rfl, (blk_cell BK397.out 1).trans rfl, (blk_cell BK397.out 2).trans rfl, (blk_cell BK398.out 0).trans rfl, (blk_cell BK398.out 1).trans rfl, (blk_cell BK398.out 2).trans rfl⟩ (fun hHeld => ?_)
      clear hK K
      refine norm_ (a' := ?_) ?_ ?_
      rotate_left
      · show Act.put _ (some 27) _ = _
        simp only [Act.put, List.setIfInBounds_toArray, List.set_cons_zero, List.set_cons_succ, i64_w, i32_w]
        rfl
      refine pure_ (i := 5) (N := some 22) (v := ?_) (a' := ?_) #[true, true, true, true, true, true, false, false, false, false] rfl rfl (any_of HT_.out (by kernel_rfl)) (fun _ _ _ h => h) (Or.inl ⟨by rfl, ?_⟩) ?_ ?_
      rotate_left
      · intro w'
        go_simp
        with_reducible rfl
      rotate_left
      · simp only [Act.put, List.setIfInBounds_toArray, List.set_cons_zero, List.set_cons_succ, i64_w, i32_w]
        rfl
      refine pure_ (i := 6) (N := some 28) (v := ?_) (a' := ?_) #[true, true, true, true, true, true, true, false, false, false] rfl rfl (any_of HT_.out (by kernel_rfl)) (fun _ _ _ h => h) (Or.inl ⟨by rfl, ?_⟩) ?_ ?_
      rotate_left
      · intro w'
        go_simp
        with_reducible rfl
      rotate_left
      · simp only [Act.put, List.setIfInBounds_toArray, List.set_cons_zero, List.set_cons_succ, i64_w, i32_w]
        rfl
      refine pure_ (i := 7) (N := some 29) (v := ?_) (a' := ?_) #[true, true, true, true, true, true, true, true, false, false] rfl rfl (any_of HT_.out (by kernel_rfl)) (fun _ _ _ h => h) (Or.inl ⟨by rfl, ?_⟩) ?_ ?_
      rotate_left
      · intro w'
        go_simp
        with_reducible rfl
      rotate_left
      · simp only [Act.put, List.setIfInBounds_toArray, List.set_cons_zero, List.set_cons_succ, i64_w, i32_w]
        rfl
      refine pure_ (i := 8) (N := some 6) (v := ?_) (a' := ?_) #[true, true, true, true, true, true, true, true, true, false] rfl rfl (any_of HT_.out (by kernel_rfl)) (fun _ _ _ h => h) (Or.inl ⟨by rfl, ?_⟩) ?_ ?_
      rotate_left
      · intro w'
        go_simp
        with_reducible rfl
      rotate_left
      · simp only [Act.put, List.setIfInBounds_toArray, List.set_cons_zero, List.set_cons_succ, i64_w, i32_w]
        rfl
      refine pure_ (i := 9) (N := some 7) (v := ?_) (a' := ?_) #[true, true, true, true, true, true, true, true, true, true] rfl rfl (any_of HT_.out (by kernel_rfl)) (fun _ _ _ h => h) (Or.inl ⟨by rfl, ?_⟩) ?_ ?_
      rotate_left
      · intro w'
        go_simp
        with_reducible rfl
      rotate_left
      · simp only [Act.put, List.setIfInBounds_toArray, List.set_cons_zero, List.set_cons_succ, i64_w, i32_w]
        rfl
      refine done_ (done_of HT_.out (by kernel_rfl)) ?_
      have hcz39_0 : w38.cell? ⟨gb397, 0, none⟩ = some (.int .i64 a0_0) := (blk_cell BK397.out 0).trans rfl
      have hcz39_1 : w38.cell? ⟨gb397, 1, none⟩ = some (.slice A0_1 l0_1.length c0_1) := (blk_cell BK397.out 1).trans rfl
      have hcz39_2 : w38.cell? ⟨gb397, 2, none⟩ = some (.int .i64 a0_2) := (blk_cell BK397.out 2).trans rfl
      have hfz39_0 := blk_frozen BK397.out 0
      have hfz39_1 := blk_frozen BK397.out 1
      have hfz39_2 := blk_frozen BK397.out 2
      go_upto_region 12 with (first | ((with_reducible refine gate_callee (f := 24) rfl ?_); refine goesL_ (some 31) rfl rfl Try.func24 (by kernel_rfl) rfl #[.agg #[.int .i64 a0_0, .slice A0_1 l0_1.length c0_1, .int .i64 a0_2]] rfl (by (try simp only [List.map_toArray, List.map_cons, List.map_nil]); first | done | rfl | (simp only [List.length_drop, List.length_take]; rfl)) ?_; (with_reducible refine (laws_toDyadic.calls k a0_0 _ _ l0_1 a0_2 t413 t414 t417 _ ?side1 ?side2 A22.out).mono ?_); (case side1 => repeat (first | exact (Kd.C_below HR0_1.out HB.out) | (with_reducible refine Kd.C_alloc ?_ _) | (with_reducible refine Kd.C_drewN ?_ _) | (with_reducible refine Kd.C_drew ?_))); (case side2 => exact HC0_1.out); rintro e w40 ⟨v415, rfl, ho0, hb⟩; refine ⟨_, rfl, ?_⟩; have n0_ := Aside0.mk (Kd.R_elder' (by (with_reducible repeat (first | apply Kd.R_alloc | apply Kd.R_drewN | apply Kd.R_drew)); exact HO404.out) (Kd.R_base ho0) hb); have n1_ := Aside0.mk (Kd.R_elder' (by (with_reducible repeat (first | apply Kd.R_alloc | apply Kd.R_drewN | apply Kd.R_drew)); exact HO409.out) (Kd.R_base ho0) hb); have n2_ := Aside0.mk (Kd.R_lower (Kd.R_new' (Kd.R_new' ho0 (Kd.R_lt (by (with_reducible repeat (first | apply Kd.R_alloc | apply Kd.R_drewN | apply Kd.R_drew)); exact HO404.out))) (Kd.R_lt (by (with_reducible repeat (first | apply Kd.R_alloc | apply Kd.R_drewN | apply Kd.R_drew)); exact HO409.out))) (below_size (by repeat (first | (with_reducible first | exact HB.out | apply below_alloc | apply pw_below_drewN | apply below_drew1 | refine below_set ?_ GE397.out | refine below_set ?_ GE398.out) | exact HB.out)))); have n3_ := Aside0.mk (blk_below (g := gb397) (o := .cells #[.int .i64 a0_0, .slice A0_1 l0_1.length c0_1, .int .i64 a0_2] 26 (0, 0)) (by (with_reducible repeat (first | refine blk_drewN ?_ _ | refine blk_drew ?_ | refine blk_alloc ?_ _)); exact BK397.out) hb); have n4_ := Aside0.mk (blk_below (g := gb398) (o := .cells #[.int .i64 a1_0, .slice A1_1 l1_1.length c1_1, .int .i64 a1_2] 26 (0, 0)) (by (with_reducible repeat (first | refine blk_drewN ?_ _ | refine blk_drew ?_ | refine blk_alloc ?_ _)); exact BK398.out) hb); have n5_ := Aside0.mk (below_step (by repeat (first | (with_reducible first | exact HB.out | apply below_alloc | apply pw_below_drewN | apply below_drew1 | refine below_set ?_ GE397.out | refine below_set ?_ GE398.out) | exact HB.out)) hb); clear HO404; clear HO409; clear BK397; clear BK398; clear HB; have HO404 := n0_; have HO409 := n1_; have HO416 := n2_; have BK397 := n3_; have BK398 := n4_; have HB := n5_; clear n0_ n1_ n2_ n3_ n4_ n5_; (try clear hb); (try clear hb2); (try clear hk); (try clear hi); (try clear ho0)) | ((with_reducible refine gate_dst (N := 8) rfl ?_); refine box_event ?hg (N := 8) ?hd (cs := #[.int .i64 0, .slice none 0 0, .int .i64 0]) (t := 31) ?hr ?_; (case hd => rfl); (case hg => rfl); (case hr => first | (go_simp; done) | (go_simp; rfl)); intro gb418 hg w41 hbox hb; have n0_ := Aside0.mk (Kd.R_below (by (with_reducible repeat (first | apply Kd.R_alloc | apply Kd.R_drewN | apply Kd.R_drew)); exact HO404.out) hb); have n1_ := Aside0.mk (Kd.R_below (by (with_reducible repeat (first | apply Kd.R_alloc | apply Kd.R_drewN | apply Kd.R_drew)); exact HO409.out) hb); have n2_ := Aside0.mk (Kd.R_below (by (with_reducible repeat (first | apply Kd.R_alloc | apply Kd.R_drewN | apply Kd.R_drew)); exact HO416.out) hb); have n3_ := Aside0.mk (blk_below (g := gb397) (o := .cells #[.int .i64 a0_0, .slice A0_1 l0_1.length c0_1, .int .i64 a0_2] 26 (0, 0)) (by (with_reducible repeat (first | refine blk_drewN ?_ _ | refine blk_drew ?_ | refine blk_alloc ?_ _)); exact BK397.out) hb); have n4_ := Aside0.mk (blk_below (g := gb398) (o := .cells #[.int .i64 a1_0, .slice A1_1 l1_1.length c1_1, .int .i64 a1_2] 26 (0, 0)) (by (with_reducible repeat (first | refine blk_drewN ?_ _ | refine blk_drew ?_ | refine blk_alloc ?_ _)); exact BK398.out) hb); have n5_ := Aside0.mk (below_step (by repeat (first | (with_reducible first | exact HB.out | apply below_alloc | apply pw_below_drewN | apply below_drew1 | refine below_set ?_ GE397.out | refine below_set ?_ GE398.out) | exact HB.out)) hb); have n6_ := Aside0.mk (hbox); have n7_ := Aside0.mk ((by rw [hg]; exact (below_size (by repeat (first | (with_reducible first | exact HB.out | apply below_alloc | apply pw_below_drewN | apply below_drew1 | refine below_set ?_ GE397.out | refine below_set ?_ GE398.out) | exact HB.out))) : w.heap.size ≤ gb418)); have n8_ := Aside0.mk ((by rw [hg]; exact (below_size (by repeat (first | (with_reducible first | exact HB.out | apply below_alloc | apply pw_below_drewN | apply below_drew1 | refine below_set ?_ GE397.out | refine below_set ?_ GE398.out) | exact HB.out))) : w.heap.size ≤ gb418)); have n9_ := Aside0.mk ((by rw [hg]; exact Nat.ne_of_lt (blk_lt (g := gb397) (o := .cells #[.int .i64 a0_0, .slice A0_1 l0_1.length c0_1, .int .i64 a0_2] 26 (0, 0)) (by (with_reducible repeat (first | refine blk_drewN ?_ _ | refine blk_drew ?_ | refine blk_alloc ?_ _)); exact BK397.out)) : gb397 ≠ gb418)); have n10_ := Aside0.mk ((by rw [hg]; exact Nat.ne_of_gt (blk_lt (g := gb397) (o := .cells #[.int .i64 a0_0, .slice A0_1 l0_1.length c0_1, .int .i64 a0_2] 26 (0, 0)) (by (with_reducible repeat (first | refine blk_drewN ?_ _ | refine blk_drew ?_ | refine blk_alloc ?_ _)); exact BK397.out)) : gb418 ≠ gb397)); have n11_ := Aside0.mk ((by rw [hg]; exact Nat.ne_of_lt (blk_lt (g := gb398) (o := .cells #[.int .i64 a1_0, .slice A1_1 l1_1.length c1_1, .int .i64 a1_2] 26 (0, 0)) (by (with_reducible repeat (first | refine blk_drewN ?_ _ | refine blk_drew ?_ | refine blk_alloc ?_ _)); exact BK398.out)) : gb398 ≠ gb418)); have n12_ := Aside0.mk ((by rw [hg]; exact Nat.ne_of_gt (blk_lt (g := gb398) (o := .cells #[.int .i64 a1_0, .slice A1_1 l1_1.length c1_1, .int .i64 a1_2] 26 (0, 0)) (by (with_reducible repeat (first | refine blk_drewN ?_ _ | refine blk_drew ?_ | refine blk_alloc ?_ _)); exact BK398.out)) : gb418 ≠ gb398)); clear HO404; clear HO409; clear HO416; clear BK397; clear BK398; clear HB; have HO404 := n0_; have HO409 := n1_; have HO416 := n2_; have BK397 := n3_; have BK398 := n4_; have HB := n5_; have BK418 := n6_; have GW418 := n7_; have GE418 := n8_; have NB397_418 := n9_; have NB418_397 := n10_; have NB398_418 := n11_; have NB418_398 := n12_; clear n0_ n1_ n2_ n3_ n4_ n5_ n6_ n7_ n8_ n9_ n10_ n11_ n12_; clear hb hbox hg; have hnb42 := NB418_397.out; have hnc42 := NB397_418.out; have hnb43 := NB418_398.out; have hnc43 := NB398_418.out; have hcz44_0 : w41.cell? ⟨gb418, 0, none⟩ = some (.int .i64 0) := (blk_cell BK418.out 0).trans rfl; have hcz44_1 : w41.cell? ⟨gb418, 1, none⟩ = some (.slice none 0 0) := (blk_cell BK418.out 1).trans rfl; have hcz44_2 : w41.cell? ⟨gb418, 2, none⟩ = some (.int .i64 0) := (blk_cell BK418.out 2).trans rfl; have hfz44_0 := blk_frozen BK418.out 0; have hfz44_1 := blk_frozen BK418.out 1; have hfz44_2 := blk_frozen BK418.out 2; obtain ⟨Ao45, co45, eo45⟩ := Kd.R_slice HO416.out; subst eo45; have hcz46_0 : w41.cell? ⟨gb398, 0, none⟩ = some (.int .i64 a1_0) := (blk_cell BK398.out 0).trans rfl; have hcz46_1 : w41.cell? ⟨gb398, 1, none⟩ = some (.slice A1_1 l1_1.length c1_1) := (blk_cell BK398.out 1).trans rfl; have hcz46_2 : w41.cell? ⟨gb398, 2, none⟩ = some (.int .i64 a1_2) := (blk_cell BK398.out 2).trans rfl; have hfz46_0 := blk_frozen BK398.out 0; have hfz46_1 := blk_frozen BK398.out 1; have hfz46_2 := blk_frozen BK398.out 2) | ((with_reducible refine gate_callee (f := 24) rfl ?_); refine goesL_ (some 33) rfl rfl Try.func24 (by kernel_rfl) rfl #[.agg #[.int .i64 a1_0, .slice A1_1 l1_1.length c1_1, .int .i64 a1_2]] rfl (by (try simp only [List.map_toArray, List.map_cons, List.map_nil]); first | done | rfl | (simp only [List.length_drop, List.length_take]; rfl)) ?_; (with_reducible refine (laws_toDyadic.calls k a1_0 _ _ l1_1 a1_2 t419 t420 t423 _ ?side1 ?side2 A23.out).mono ?_); (case side1 => exact Kd.C_below HR1_1.out (by repeat (first | (with_reducible first | exact HB.out | apply below_alloc | apply pw_below_drewN | apply below_drew1 | refine below_set ?_ GE397.out | refine below_set ?_ GE398.out | refine below_set ?_ GE418.out) | exact HB.out))); (case side2 => exact HC1_1.out); rintro e w47 ⟨v421, rfl, ho0, hb⟩; refine ⟨_, rfl, ?_⟩; have n0_ := Aside0.mk (Kd.R_elder' (by (with_reducible repeat (first | apply Kd.R_alloc | apply Kd.R_drewN | apply Kd.R_drew)); exact (Kd.R_mono (Kd.R_far (p := ⟨gb418, 2, none⟩) (Kd.R_far (p := ⟨gb418, 1, none⟩) (Kd.R_far (p := ⟨gb418, 0, none⟩) (Kd.R_types HO404.out BK418.out (by decide)) (fun _ hk => hk.2) (.int .i64 t413)) (fun _ hk => hk.2) (.slice Ao45 t414.length co45)) (fun _ hk => hk.2) (.int .i64 t417)) (fun _ h_ => h_.1))) (Kd.R_base ho0) hb); have n1_ := Aside0.mk (Kd.R_elder' (by (with_reducible repeat (first | apply Kd.R_alloc | apply Kd.R_drewN | apply Kd.R_drew)); exact (Kd.R_mono (Kd.R_far (p := ⟨gb418, 2, none⟩) (Kd.R_far (p := ⟨gb418, 1, none⟩) (Kd.R_far (p := ⟨gb418, 0, none⟩) (Kd.R_types HO409.out BK418.out (by decide)) (fun _ hk => hk.2) (.int .i64 t413)) (fun _ hk => hk.2) (.slice Ao45 t414.length co45)) (fun _ hk => hk.2) (.int .i64 t417)) (fun _ h_ => h_.1))) (Kd.R_base ho0) hb); have n2_ := Aside0.mk (Kd.R_elder' (by (with_reducible repeat (first | apply Kd.R_alloc | apply Kd.R_drewN | apply Kd.R_drew)); exact (Kd.R_mono (Kd.R_far (p := ⟨gb418, 2, none⟩) (Kd.R_far (p := ⟨gb418, 1, none⟩) (Kd.R_far (p := ⟨gb418, 0, none⟩) (Kd.R_types HO416.out BK418.out (by decide)) (fun _ hk => hk.2) (.int .i64 t413)) (fun _ hk => hk.2) (.slice Ao45 t414.length co45)) (fun _ hk => hk.2) (.int .i64 t417)) (fun _ h_ => h_.1))) (Kd.R_base ho0) hb); have n3_ := Aside0.mk (Kd.R_lower (Kd.R_new' (Kd.R_new' (Kd.R_new' ho0 (Kd.R_lt (by (with_reducible repeat (first | apply Kd.R_alloc | apply Kd.R_drewN | apply Kd.R_drew)); exact (Kd.R_mono (Kd.R_far (p := ⟨gb418, 2, none⟩) (Kd.R_far (p := ⟨gb418, 1, none⟩) (Kd.R_far (p := ⟨gb418, 0, none⟩) (Kd.R_types HO404.out BK418.out (by decide)) (fun _ hk => hk.2) (.int .i64 t413)) (fun _ hk => hk.2) (.slice Ao45 t414.length co45)) (fun _ hk => hk.2) (.int .i64 t417)) (fun _ h_ => h_.1))))) (Kd.R_lt (by (with_reducible repeat (first | apply Kd.R_alloc | apply Kd.R_drewN | apply Kd.R_drew)); exact (Kd.R_mono (Kd.R_far (p := ⟨gb418, 2, none⟩) (Kd.R_far (p := ⟨gb418, 1, none⟩) (Kd.R_far (p := ⟨gb418, 0, none⟩) (Kd.R_types HO409.out BK418.out (by decide)) (fun _ hk => hk.2) (.int .i64 t413)) (fun _ hk => hk.2) (.slice Ao45 t414.length co45)) (fun _ hk => hk.2) (.int .i64 t417)) (fun _ h_ => h_.1))))) (Kd.R_lt (by (with_reducible repeat (first | apply Kd.R_alloc | apply Kd.R_drewN | apply Kd.R_drew)); exact (Kd.R_mono (Kd.R_far (p := ⟨gb418, 2, none⟩) (Kd.R_far (p := ⟨gb418, 1, none⟩) (Kd.R_far (p := ⟨gb418, 0, none⟩) (Kd.R_types HO416.out BK418.out (by decide)) (fun _ hk => hk.2) (.int .i64 t413)) (fun _ hk => hk.2) (.slice Ao45 t414.length co45)) (fun _ hk => hk.2) (.int .i64 t417)) (fun _ h_ => h_.1))))) (below_size (by repeat (first | (with_reducible first | exact HB.out | apply below_alloc | apply pw_below_drewN | apply below_drew1 | refine below_set ?_ GE397.out | refine below_set ?_ GE398.out | refine below_set ?_ GE418.out) | exact HB.out)))); have n4_ := Aside0.mk (blk_below (g := gb397) (o := .cells #[.int .i64 a0_0, .slice A0_1 l0_1.length c0_1, .int .i64 a0_2] 26 (0, 0)) (by (with_reducible repeat (first | refine blk_drewN ?_ _ | refine blk_drew ?_ | refine blk_alloc ?_ _)); refine blk_far ?_ NB397_418.out _; (with_reducible repeat (first | refine blk_drewN ?_ _ | refine blk_drew ?_ | refine blk_alloc ?_ _)); refine blk_far ?_ NB397_418.out _; (with_reducible repeat (first | refine blk_drewN ?_ _ | refine blk_drew ?_ | refine blk_alloc ?_ _)); refine blk_far ?_ NB397_418.out _; (with_reducible repeat (first | refine blk_drewN ?_ _ | refine blk_drew ?_ | refine blk_alloc ?_ _)); exact BK397.out) hb); have n5_ := Aside0.mk (blk_below (g := gb398) (o := .cells #[.int .i64 a1_0, .slice A1_1 l1_1.length c1_1, .int .i64 a1_2] 26 (0, 0)) (by (with_reducible repeat (first | refine blk_drewN ?_ _ | refine blk_drew ?_ | refine blk_alloc ?_ _)); refine blk_far ?_ NB398_418.out _; (with_reducible repeat (first | refine blk_drewN ?_ _ | refine blk_drew ?_ | refine blk_alloc ?_ _)); refine blk_far ?_ NB398_418.out _; (with_reducible repeat (first | refine blk_drewN ?_ _ | refine blk_drew ?_ | refine blk_alloc ?_ _)); refine blk_far ?_ NB398_418.out _; (with_reducible repeat (first | refine blk_drewN ?_ _ | refine blk_drew ?_ | refine blk_alloc ?_ _)); exact BK398.out) hb); have n6_ := Aside0.mk (blk_below (g := gb418) (o := .cells #[.int .i64 t413, .slice Ao45 t414.length co45, .int .i64 t417] 31 (0, 0)) (by (with_reducible repeat (first | refine blk_drewN ?_ _ | refine blk_drew ?_ | refine blk_alloc ?_ _)); refine blk_put (cs := #[.int .i64 t413, .slice Ao45 t414.length co45, .int .i64 0]) ?_ 2 _ rfl; (with_reducible repeat (first | refine blk_drewN ?_ _ | refine blk_drew ?_ | refine blk_alloc ?_ _)); refine blk_put (cs := #[.int .i64 t413, .slice none 0 0, .int .i64 0]) ?_ 1 _ rfl; (with_reducible repeat (first | refine blk_drewN ?_ _ | refine blk_drew ?_ | refine blk_alloc ?_ _)); refine blk_put (cs := #[.int .i64 0, .slice none 0 0, .int .i64 0]) ?_ 0 _ rfl; (with_reducible repeat (first | refine blk_drewN ?_ _ | refine blk_drew ?_ | refine blk_alloc ?_ _)); exact BK418.out) hb); have n7_ := Aside0.mk (below_step (by repeat (first | (with_reducible first | exact HB.out | apply below_alloc | apply pw_below_drewN | apply below_drew1 | refine below_set ?_ GE397.out | refine below_set ?_ GE398.out | refine below_set ?_ GE418.out) | exact HB.out)) hb); clear HO404; clear HO409; clear HO416; clear BK397; clear BK398; clear BK418; clear HB; have HO404 := n0_; have HO409 := n1_; have HO416 := n2_; have HO422 := n3_; have BK397 := n4_; have BK398 := n5_; have BK418 := n6_; have HB := n7_; clear n0_ n1_ n2_ n3_ n4_ n5_ n6_ n7_; (try clear hb); (try clear hb2); (try clear hk); (try clear hi); (try clear ho0)) | ((with_reducible refine gate_dst (N := 9) rfl ?_); refine box_event ?hg (N := 9) ?hd (cs := #[.int .i64 0, .slice none 0 0, .int .i64 0]) (t := 31) ?hr ?_; (case hd => rfl); (case hg => rfl); (case hr => first | (go_simp; done) | (go_simp; rfl)); intro gb424 hg w48 hbox hb; have n0_ := Aside0.mk (Kd.R_below (by (with_reducible repeat (first | apply Kd.R_alloc | apply Kd.R_drewN | apply Kd.R_drew)); exact HO404.out) hb); have n1_ := Aside0.mk (Kd.R_below (by (with_reducible repeat (first | apply Kd.R_alloc | apply Kd.R_drewN | apply Kd.R_drew)); exact HO409.out) hb); have n2_ := Aside0.mk (Kd.R_below (by (with_reducible repeat (first | apply Kd.R_alloc | apply Kd.R_drewN | apply Kd.R_drew)); exact HO416.out) hb); have n3_ := Aside0.mk (Kd.R_below (by (with_reducible repeat (first | apply Kd.R_alloc | apply Kd.R_drewN | apply Kd.R_drew)); exact HO422.out) hb); have n4_ := Aside0.mk (blk_below (g := gb397) (o := .cells #[.int .i64 a0_0, .slice A0_1 l0_1.length c0_1, .int .i64 a0_2] 26 (0, 0)) (by (with_reducible repeat (first | refine blk_drewN ?_ _ | refine blk_drew ?_ | refine blk_alloc ?_ _)); exact BK397.out) hb); have n5_ := Aside0.mk (blk_below (g := gb398) (o := .cells #[.int .i64 a1_0, .slice A1_1 l1_1.length c1_1, .int .i64 a1_2] 26 (0, 0)) (by (with_reducible repeat (first | refine blk_drewN ?_ _ | refine blk_drew ?_ | refine blk_alloc ?_ _)); exact BK398.out) hb); have n6_ := Aside0.mk (blk_below (g := gb418) (o := .cells #[.int .i64 t413, .slice Ao45 t414.length co45, .int .i64 t417] 31 (0, 0)) (by (with_reducible repeat (first | refine blk_drewN ?_ _ | refine blk_drew ?_ | refine blk_alloc ?_ _)); exact BK418.out) hb); have n7_ := Aside0.mk (below_step (by repeat (first | (with_reducible first | exact HB.out | apply below_alloc | apply pw_below_drewN | apply below_drew1 | refine below_set ?_ GE397.out | refine below_set ?_ GE398.out | refine below_set ?_ GE418.out) | exact HB.out)) hb); have n8_ := Aside0.mk (hbox); have n9_ := Aside0.mk ((by rw [hg]; exact (below_size (by repeat (first | (with_reducible first | exact HB.out | apply below_alloc | apply pw_below_drewN | apply below_drew1 | refine below_set ?_ GE397.out | refine below_set ?_ GE398.out | refine below_set ?_ GE418.out) | exact HB.out))) : w.heap.size ≤ gb424)); have n10_ := Aside0.mk ((by rw [hg]; exact (below_size (by repeat (first | (with_reducible first | exact HB.out | apply below_alloc | apply pw_below_drewN | apply below_drew1 | refine below_set ?_ GE397.out | refine below_set ?_ GE398.out | refine below_set ?_ GE418.out) | exact HB.out))) : w.heap.size ≤ gb424)); have n11_ := Aside0.mk ((by rw [hg]; exact Nat.ne_of_lt (blk_lt (g := gb397) (o := .cells #[.int .i64 a0_0, .slice A0_1 l0_1.length c0_1, .int .i64 a0_2] 26 (0, 0)) (by (with_reducible repeat (first | refine blk_drewN ?_ _ | refine blk_drew ?_ | refine blk_alloc ?_ _)); exact BK397.out)) : gb397 ≠ gb424)); have n12_ := Aside0.mk ((by rw [hg]; exact Nat.ne_of_gt (blk_lt (g := gb397) (o := .cells #[.int .i64 a0_0, .slice A0_1 l0_1.length c0_1, .int .i64 a0_2] 26 (0, 0)) (by (with_reducible repeat (first | refine blk_drewN ?_ _ | refine blk_drew ?_ | refine blk_alloc ?_ _)); exact BK397.out)) : gb424 ≠ gb397)); have n13_ := Aside0.mk ((by rw [hg]; exact Nat.ne_of_lt (blk_lt (g := gb398) (o := .cells #[.int .i64 a1_0, .slice A1_1 l1_1.length c1_1, .int .i64 a1_2] 26 (0, 0)) (by (with_reducible repeat (first | refine blk_drewN ?_ _ | refine blk_drew ?_ | refine blk_alloc ?_ _)); exact BK398.out)) : gb398 ≠ gb424)); have n14_ := Aside0.mk ((by rw [hg]; exact Nat.ne_of_gt (blk_lt (g := gb398) (o := .cells #[.int .i64 a1_0, .slice A1_1 l1_1.length c1_1, .int .i64 a1_2] 26 (0, 0)) (by (with_reducible repeat (first | refine blk_drewN ?_ _ | refine blk_drew ?_ | refine blk_alloc ?_ _)); exact BK398.out)) : gb424 ≠ gb398)); have n15_ := Aside0.mk ((by rw [hg]; exact Nat.ne_of_lt (blk_lt (g := gb418) (o := .cells #[.int .i64 t413, .slice Ao45 t414.length co45, .int .i64 t417] 31 (0, 0)) (by (with_reducible repeat (first | refine blk_drewN ?_ _ | refine blk_drew ?_ | refine blk_alloc ?_ _)); exact BK418.out)) : gb418 ≠ gb424)); have n16_ := Aside0.mk ((by rw [hg]; exact Nat.ne_of_gt (blk_lt (g := gb418) (o := .cells #[.int .i64 t413, .slice Ao45 t414.length co45, .int .i64 t417] 31 (0, 0)) (by (with_reducible repeat (first | refine blk_drewN ?_ _ | refine blk_drew ?_ | refine blk_alloc ?_ _)); exact BK418.out)) : gb424 ≠ gb418)); clear HO404; clear HO409; clear HO416; clear HO422; clear BK397; clear BK398; clear BK418; clear HB; have HO404 := n0_; have HO409 := n1_; have HO416 := n2_; have HO422 := n3_; have BK397 := n4_; have BK398 := n5_; have BK418 := n6_; have HB := n7_; have BK424 := n8_; have GW424 := n9_; have GE424 := n10_; have NB397_424 := n11_; have NB424_397 := n12_; have NB398_424 := n13_; have NB424_398 := n14_; have NB418_424 := n15_; have NB424_418 := n16_; clear n0_ n1_ n2_ n3_ n4_ n5_ n6_ n7_ n8_ n9_ n10_ n11_ n12_ n13_ n14_ n15_ n16_; clear hb hbox hg; have hnb49 := NB424_397.out; have hnc49 := NB397_424.out; have hnb50 := NB424_398.out; have hnc50 := NB398_424.out; have hnb51 := NB424_418.out; have hnc51 := NB418_424.out; have hcz52_0 : w48.cell? ⟨gb424, 0, none⟩ = some (.int .i64 0) := (blk_cell BK424.out 0).trans rfl; have hcz52_1 : w48.cell? ⟨gb424, 1, none⟩ = some (.slice none 0 0) := (blk_cell BK424.out 1).trans rfl; have hcz52_2 : w48.cell? ⟨gb424, 2, none⟩ = some (.int .i64 0) := (blk_cell BK424.out 2).trans rfl; have hfz52_0 := blk_frozen BK424.out 0; have hfz52_1 := blk_frozen BK424.out 1; have hfz52_2 := blk_frozen BK424.out 2; obtain ⟨Ao53, co53, eo53⟩ := Kd.R_slice HO422.out; subst eo53; have hcz54_0 : w48.cell? ⟨gb418, 0, none⟩ = some (.int .i64 t413) := (blk_cell BK418.out 0).trans rfl; have hcz54_1 : w48.cell? ⟨gb418, 1, none⟩ = some (.slice Ao45 t414.length co45) := (blk_cell BK418.out 1).trans rfl; have hcz54_2 : w48.cell? ⟨gb418, 2, none⟩ = some (.int .i64 t417) := (blk_cell BK418.out 2).trans rfl; have hfz54_0 := blk_frozen BK418.out 0; have hfz54_1 := blk_frozen BK418.out 1; have hfz54_2 := blk_frozen BK418.out 2) | ((with_reducible refine gate_callee (f := 38) rfl ?_); refine goesL_ (some 37) rfl rfl Try.func38 (by kernel_rfl) rfl #[.agg #[.int .i64 t413, .slice Ao45 t414.length co45, .int .i64 t417], .agg #[.int .i64 t419, .slice Ao53 t420.length co53, .int .i64 t423]] rfl (by (try simp only [List.map_toArray, List.map_cons, List.map_nil]); first | done | rfl | (simp only [List.length_drop, List.length_take]; rfl)) ?_; (with_reducible refine (impl_CompareDyadics.calls t413 _ _ t414 t417 t419 _ _ t420 t423 t425 t426 _ ?side1 ?side2 ?side3 ?side4 A24.out).mono ?_); (case side1 => refine (Kd.R_reads' (e := 2) (base := w.heap.size) (ok := fun k_ => (((True ∧ some k_ ≠ (.slice Ao36 t402.length co36 : Value).ownBlock) ∧ some k_ ≠ (.slice Ao37 t407.length co37 : Value).ownBlock) ∧ some k_ ≠ (.slice Ao53 t420.length co53 : Value).ownBlock)) (n := t414.length) (c := co45) ?_).2.2; exact (by (with_reducible repeat (first | apply Kd.R_alloc | apply Kd.R_drewN | apply Kd.R_drew)); exact (Kd.R_mono (Kd.R_far (p := ⟨gb424, 2, none⟩) (Kd.R_far (p := ⟨gb424, 1, none⟩) (Kd.R_far (p := ⟨gb424, 0, none⟩) (Kd.R_types HO416.out BK424.out (by decide)) (fun _ hk => hk.2) (.int .i64 t419)) (fun _ hk => hk.2) (.slice Ao53 t420.length co53)) (fun _ hk => hk.2) (.int .i64 t423)) (fun _ h_ => h_.1)))); (case side2 => exact (Kd.R_reads' HO416.out).2.1); (case side3 => refine (Kd.R_reads' (e := 2) (base := w.heap.size) (ok := fun k_ => (((True ∧ some k_ ≠ (.slice Ao36 t402.length co36 : Value).ownBlock) ∧ some k_ ≠ (.slice Ao37 t407.length co37 : Value).ownBlock) ∧ some k_ ≠ (.slice Ao45 t414.length co45 : Value).ownBlock)) (n := t420.length) (c := co53) ?_).2.2; exact (by (with_reducible repeat (first | apply Kd.R_alloc | apply Kd.R_drewN | apply Kd.R_drew)); exact (Kd.R_mono (Kd.R_far (p := ⟨gb424, 2, none⟩) (Kd.R_far (p := ⟨gb424, 1, none⟩) (Kd.R_far (p := ⟨gb424, 0, none⟩) (Kd.R_types HO422.out BK424.out (by decide)) (fun _ hk => hk.2) (.int .i64 t419)) (fun _ hk => hk.2) (.slice Ao53 t420.length co53)) (fun _ hk => hk.2) (.int .i64 t423)) (fun _ h_ => h_.1)))); (case side4 => exact (Kd.R_reads' HO422.out).2.1); rintro e w55 ⟨rfl, hb⟩; refine ⟨_, rfl, ?_⟩; have n0_ := Aside0.mk (Kd.R_below (by (with_reducible repeat (first | apply Kd.R_alloc | apply Kd.R_drewN | apply Kd.R_drew)); exact (Kd.R_mono (Kd.R_far (p := ⟨gb424, 2, none⟩) (Kd.R_far (p := ⟨gb424, 1, none⟩) (Kd.R_far (p := ⟨gb424, 0, none⟩) (Kd.R_types HO404.out BK424.out (by decide)) (fun _ hk => hk.2) (.int .i64 t419)) (fun _ hk => hk.2) (.slice Ao53 t420.length co53)) (fun _ hk => hk.2) (.int .i64 t423)) (fun _ h_ => h_.1))) hb); have n1_ := Aside0.mk (Kd.R_below (by (with_reducible repeat (first | apply Kd.R_alloc | apply Kd.R_drewN | apply Kd.R_drew)); exact (Kd.R_mono (Kd.R_far (p := ⟨gb424, 2, none⟩) (Kd.R_far (p := ⟨gb424, 1, none⟩) (Kd.R_far (p := ⟨gb424, 0, none⟩) (Kd.R_types HO409.out BK424.out (by decide)) (fun _ hk => hk.2) (.int .i64 t419)) (fun _ hk => hk.2) (.slice Ao53 t420.length co53)) (fun _ hk => hk.2) (.int .i64 t423)) (fun _ h_ => h_.1))) hb); have n2_ := Aside0.mk (Kd.R_below (by (with_reducible repeat (first | apply Kd.R_alloc | apply Kd.R_drewN | apply Kd.R_drew)); exact (Kd.R_mono (Kd.R_far (p := ⟨gb424, 2, none⟩) (Kd.R_far (p := ⟨gb424, 1, none⟩) (Kd.R_far (p := ⟨gb424, 0, none⟩) (Kd.R_types HO416.out BK424.out (by decide)) (fun _ hk => hk.2) (.int .i64 t419)) (fun _ hk => hk.2) (.slice Ao53 t420.length co53)) (fun _ hk => hk.2) (.int .i64 t423)) (fun _ h_ => h_.1))) hb); have n3_ := Aside0.mk (Kd.R_below (by (with_reducible repeat (first | apply Kd.R_alloc | apply Kd.R_drewN | apply Kd.R_drew)); exact (Kd.R_mono (Kd.R_far (p := ⟨gb424, 2, none⟩) (Kd.R_far (p := ⟨gb424, 1, none⟩) (Kd.R_far (p := ⟨gb424, 0, none⟩) (Kd.R_types HO422.out BK424.out (by decide)) (fun _ hk => hk.2) (.int .i64 t419)) (fun _ hk => hk.2) (.slice Ao53 t420.length co53)) (fun _ hk => hk.2) (.int .i64 t423)) (fun _ h_ => h_.1))) hb); have n4_ := Aside0.mk (blk_below (g := gb397) (o := .cells #[.int .i64 a0_0, .slice A0_1 l0_1.length c0_1, .int .i64 a0_2] 26 (0, 0)) (by (with_reducible repeat (first | refine blk_drewN ?_ _ | refine blk_drew ?_ | refine blk_alloc ?_ _)); refine blk_far ?_ NB397_424.out _; (with_reducible repeat (first | refine blk_drewN ?_ _ | refine blk_drew ?_ | refine blk_alloc ?_ _)); refine blk_far ?_ NB397_424.out _; (with_reducible repeat (first | refine blk_drewN ?_ _ | refine blk_drew ?_ | refine blk_alloc ?_ _)); refine blk_far ?_ NB397_424.out _; (with_reducible repeat (first | refine blk_drewN ?_ _ | refine blk_drew ?_ | refine blk_alloc ?_ _)); exact BK397.out) hb); have n5_ := Aside0.mk (blk_below (g := gb398) (o := .cells #[.int .i64 a1_0, .slice A1_1 l1_1.length c1_1, .int .i64 a1_2] 26 (0, 0)) (by (with_reducible repeat (first | refine blk_drewN ?_ _ | refine blk_drew ?_ | refine blk_alloc ?_ _)); refine blk_far ?_ NB398_424.out _; (with_reducible repeat (first | refine blk_drewN ?_ _ | refine blk_drew ?_ | refine blk_alloc ?_ _)); refine blk_far ?_ NB398_424.out _; (with_reducible repeat (first | refine blk_drewN ?_ _ | refine blk_drew ?_ | refine blk_alloc ?_ _)); refine blk_far ?_ NB398_424.out _; (with_reducible repeat (first | refine blk_drewN ?_ _ | refine blk_drew ?_ | refine blk_alloc ?_ _)); exact BK398.out) hb); have n6_ := Aside0.mk (blk_below (g := gb418) (o := .cells #[.int .i64 t413, .slice Ao45 t414.length co45, .int .i64 t417] 31 (0, 0)) (by (with_reducible repeat (first | refine blk_drewN ?_ _ | refine blk_drew ?_ | refine blk_alloc ?_ _)); refine blk_far ?_ NB418_424.out _; (with_reducible repeat (first | refine blk_drewN ?_ _ | refine blk_drew ?_ | refine blk_alloc ?_ _)); refine blk_far ?_ NB418_424.out _; (with_reducible repeat (first | refine blk_drewN ?_ _ | refine blk_drew ?_ | refine blk_alloc ?_ _)); refine blk_far ?_ NB418_424.out _; (with_reducible repeat (first | refine blk_drewN ?_ _ | refine blk_drew ?_ | refine blk_alloc ?_ _)); exact BK418.out) hb); have n7_ := Aside0.mk (blk_below (g := gb424) (o := .cells #[.int .i64 t419, .slice Ao53 t420.length co53, .int .i64 t423] 31 (0, 0)) (by (with_reducible repeat (first | refine blk_drewN ?_ _ | refine blk_drew ?_ | refine blk_alloc ?_ _)); refine blk_put (cs := #[.int .i64 t419, .slice Ao53 t420.length co53, .int .i64 0]) ?_ 2 _ rfl; (with_reducible repeat (first | refine blk_drewN ?_ _ | refine blk_drew ?_ | refine blk_alloc ?_ _)); refine blk_put (cs := #[.int .i64 t419, .slice none 0 0, .int .i64 0]) ?_ 1 _ rfl; (with_reducible repeat (first | refine blk_drewN ?_ _ | refine blk_drew ?_ | refine blk_alloc ?_ _)); refine blk_put (cs := #[.int .i64 0, .slice none 0 0, .int .i64 0]) ?_ 0 _ rfl; (with_reducible repeat (first | refine blk_drewN ?_ _ | refine blk_drew ?_ | refine blk_alloc ?_ _)); exact BK424.out) hb); have n8_ := Aside0.mk (below_step (by repeat (first | (with_reducible first | exact HB.out | apply below_alloc | apply pw_below_drewN | apply below_drew1 | refine below_set ?_ GE397.out | refine below_set ?_ GE398.out | refine below_set ?_ GE418.out | refine below_set ?_ GE424.out) | exact HB.out)) hb); clear HO404; clear HO409; clear HO416; clear HO422; clear BK397; clear BK398; clear BK418; clear BK424; clear HB; have HO404 := n0_; have HO409 := n1_; have HO416 := n2_; have HO422 := n3_; have BK397 := n4_; have BK398 := n5_; have BK418 := n6_; have BK424 := n7_; have HB := n8_; clear n0_ n1_ n2_ n3_ n4_ n5_ n6_ n7_ n8_; (try clear hb); (try clear hb2); (try clear hk); (try clear hi)))
      (try simp only [Act.put, List.setIfInBounds_toArray, List.set_cons_zero, List.set_cons_succ])
      go_cut [47] (fun v47 wc => ∃ (kq : Nat) (x47_24 : Bool), v47 = .bool x47_24 ∧ Aside0 (laws_FnExactCompareDyadics.j0 kq x47_24 a0_0 l0_1 a0_2 a1_0 l1_1 a1_2 t413 t414 t417 t419 t420 t423 = some r) ∧ Aside0 (kq ≤ k) ∧ Aside0 (Kd.R (Kd.int .i64) 2 wc w.heap.size (fun k_ => some k_ ≠ ((.slice Ao53 t420.length co53) : Value).ownBlock) (.slice Ao45 t414.length co45) t414) ∧ Aside0 (Kd.R (Kd.int .i64) 2 wc w.heap.size (fun k_ => some k_ ≠ ((.slice Ao45 t414.length co45) : Value).ownBlock) (.slice Ao53 t420.length co53) t420) ∧ Aside0 (wc.heap[gb397]? = some (.cells #[.int .i64 a0_0, (.slice A0_1 l0_1.length c0_1), .int .i64 a0_2] 26 (0, 0))) ∧ Aside0 (wc.heap[gb398]? = some (.cells #[.int .i64 a1_0, (.slice A1_1 l1_1.length c1_1), .int .i64 a1_2] 26 (0, 0))) ∧ Aside0 (wc.heap[gb418]? = some (.cells #[.int .i64 t413, (.slice Ao45 t414.length co45), .int .i64 t417] 31 (0, 0))) ∧ Aside0 (wc.heap[gb424]? = some (.cells #[.int .i64 t419, (.slice Ao53 t420.length co53), .int .i64 t423] 31 (0, 0))) ∧ Aside0 (Below w.heap.size w wc))
      case first =>
        have H := HC25.out
        clear HC25
        by_cases c56 : t425 = t411
        · rw [if_pos c56] at H
          have c56b0 : (t425 == t411) = true := beq_iff_eq.mpr c56
          have c56b1 : (t425 != t411) = false := bne_eq_false_iff_eq.mpr c56
          clear c56
          (first | rw [c56b0] | (simp only [i64_w, i32_w]; rw [c56b0]) | skip)
          have H' := Aside0.mk H
          clear H
          go_wp2
          go_meet
          case rel => exact ⟨_, ((t426 != t412)), (by first | rfl | (simp; done) | (simp [*]; done)), H', ⟨by first | omega | exact Nat.le_refl _⟩, ⟨by (with_reducible repeat (first | apply Kd.R_alloc | apply Kd.R_drewN | apply Kd.R_drew)); exact Kd.R_mono HO416.out (fun _ hk => hk.2)⟩, ⟨by (with_reducible repeat (first | apply Kd.R_alloc | apply Kd.R_drewN | apply Kd.R_drew)); exact Kd.R_mono HO422.out (fun _ hk => hk.2)⟩, ⟨by (with_reducible repeat (first | refine blk_drewN ?_ _ | refine blk_drew ?_ | refine blk_alloc ?_ _)); exact BK397.out⟩, ⟨by (with_reducible repeat (first | refine blk_drewN ?_ _ | refine blk_drew ?_ | refine blk_alloc ?_ _)); exact BK398.out⟩, ⟨by (with_reducible repeat (first | refine blk_drewN ?_ _ | refine blk_drew ?_ | refine blk_alloc ?_ _)); exact BK418.out⟩, ⟨by (with_reducible repeat (first | refine blk_drewN ?_ _ | refine blk_drew ?_ | refine blk_alloc ?_ _)); exact BK424.out⟩, ⟨by repeat (first | (with_reducible first | exact HB.out | apply below_alloc | apply pw_below_drewN | apply below_drew1 | refine below_set ?_ GE397.out | refine below_set ?_ GE398.out | refine below_set ?_ GE418.out | refine below_set ?_ GE424.out) | exact HB.out)⟩⟩
        · rw [if_neg c56] at H
          have c56b0 : (t425 == t411) = false := beq_eq_false_iff_ne.mpr c56
          have c56b1 : (t425 != t411) = true := bne_iff_ne.mpr c56
          (first | rw [c56b0] | (simp only [i64_w, i32_w]; rw [c56b0]) | skip)
          have H' := Aside0.mk H
          clear H
          go_wp2
          go_meet
          case rel => exact ⟨_, (true), (by first | rfl | (simp; done) | (simp [*]; done)), H', ⟨by first | omega | exact Nat.le_refl _⟩, ⟨by (with_reducible repeat (first | apply Kd.R_alloc | apply Kd.R_drewN | apply Kd.R_drew)); exact Kd.R_mono HO416.out (fun _ hk => hk.2)⟩, ⟨by (with_reducible repeat (first | apply Kd.R_alloc | apply Kd.R_drewN | apply Kd.R_drew)); exact Kd.R_mono HO422.out (fun _ hk => hk.2)⟩, ⟨by (with_reducible repeat (first | refine blk_drewN ?_ _ | refine blk_drew ?_ | refine blk_alloc ?_ _)); exact BK397.out⟩, ⟨by (with_reducible repeat (first | refine blk_drewN ?_ _ | refine blk_drew ?_ | refine blk_alloc ?_ _)); exact BK398.out⟩, ⟨by (with_reducible repeat (first | refine blk_drewN ?_ _ | refine blk_drew ?_ | refine blk_alloc ?_ _)); exact BK418.out⟩, ⟨by (with_reducible repeat (first | refine blk_drewN ?_ _ | refine blk_drew ?_ | refine blk_alloc ?_ _)); exact BK424.out⟩, ⟨by repeat (first | (with_reducible first | exact HB.out | apply below_alloc | apply pw_below_drewN | apply below_drew1 | refine below_set ?_ GE397.out | refine below_set ?_ GE398.out | refine below_set ?_ GE418.out | refine below_set ?_ GE424.out) | exact HB.out)⟩⟩
      case rest =>
        clear HC25
        try clear c1
        try clear c2
        try clear p2
        try clear c3
        try clear c4
        try clear c4b0
        try clear c5
        try clear c6
        try clear c7
        try clear c11
        try clear c11b0
        try clear c14
        try clear c22
        try clear c24
        try clear c28
        try clear c37
        try clear c38
        try clear c42
        try clear c43
        try clear c49
        try clear c50
        try clear c51
        try clear c56
        try clear c56b0
        try clear c56b1
        try clear hcz15_0
        try clear hcz15_1
        try clear hcz15_2
        try clear hcz17_0
        try clear hcz17_1
        try clear hcz17_2
        try clear hcz29_0
        try clear hcz29_1
        try clear hcz29_2
        try clear hcz31_0
        try clear hcz31_1
        try clear hcz31_2
        try clear hcz39_0
        try clear hcz39_1
        try clear hcz39_2
        try clear hcz44_0
        try clear hcz44_1
        try clear hcz44_2
        try clear hcz46_0
        try clear hcz46_1
        try clear hcz46_2
        try clear hcz52_0
        try clear hcz52_1
        try clear hcz52_2
        try clear hcz54_0
        try clear hcz54_1
        try clear hcz54_2
        try clear hcz8_0
        try clear hcz8_1
        try clear hcz8_2
        try clear hfz15_0
        try clear hfz15_1
        try clear hfz15_2
        try clear hfz17_0
        try clear hfz17_1
        try clear hfz17_2
        try clear hfz29_0
        try clear hfz29_1
        try clear hfz29_2
        try clear hfz31_0
        try clear hfz31_1
        try clear hfz31_2
        try clear hfz39_0
        try clear hfz39_1
        try clear hfz39_2
        try clear hfz44_0
        try clear hfz44_1
        try clear hfz44_2
        try clear hfz46_0
        try clear hfz46_1
        try clear hfz46_2
        try clear hfz52_0
        try clear hfz52_1
        try clear hfz52_2
        try clear hfz54_0
        try clear hfz54_1
        try clear hfz54_2
        try clear hfz8_0
        try clear hfz8_1
        try clear hfz8_2
        obtain ⟨kq, x47_24, rfl, HA, HJ24, HO_419001, HO_425001, BK397, BK398, BK418, BK424, HB⟩ := hcut
        cases kq with
        | zero => exact absurd HA.out (by simp [laws_FnExactCompareDyadics.j0])
        | succ kj24 =>
          have H := HA.out
          clear HA
          simp only [laws_FnExactCompareDyadics.j0] at H
          by_cases c57 : x47_24 = true
          · subst c57
            have H1 : (some false) = some r := by rw [if_pos rfl] at H; exact H
            clear H
            have H := H1
            clear H1
            obtain rfl := Option.some.inj H
            go_wp2
            go_ret
            exact ⟨by first | rfl | (simp [errW_none, errW_some] <;> rfl) | (simp [*, errW_none, errW_some] <;> rfl), by repeat (first | (with_reducible first | exact HB.out | apply below_alloc | apply pw_below_drewN | apply below_drew1 | refine below_set ?_ GE397.out | refine below_set ?_ GE398.out | refine below_set ?_ GE418.out | refine below_set ?_ GE424.out) | exact HB.out)⟩
          · replace c57 := Bool.eq_false_iff.mpr c57
            subst c57
            have H1 : ((laws_toDyadic.f kj24 a0_0 l0_1 a0_2).bind fun bt427 => ((laws_eqDyadic.f kj24 t413 t414 t417 bt427.1 bt427.2.1 bt427.2.2).bind fun t432 => (if t432 = true then ((laws_toDyadic.f kj24 a1_0 l1_1 a1_2).bind fun bt433 => ((laws_eqDyadic.f kj24 t419 t420 t423 bt433.1 bt433.2.1 bt433.2.2).bind fun t438 => (if t438 = true then (some true) else (some false)))) else (some false)))) = some r := by rw [if_neg (show ¬ (false = true) by decide)] at H; exact H
            clear H
            have H := H1
            clear H1
            replace H := Option.bind_eq_some_iff.mp H
            obtain ⟨⟨t427, t428, t431⟩, A580, H⟩ := H
            replace H : ((laws_eqDyadic.f kj24 t413 t414 t417 t427 t428 t431).bind fun t432 => (if t432 = true then ((laws_toDyadic.f kj24 a1_0 l1_1 a1_2).bind fun bt433 => ((laws_eqDyadic.f kj24 t419 t420 t423 bt433.1 bt433.2.1 bt433.2.2).bind fun t438 => (if t438 = true then (some true) else (some false)))) else (some false))) = some r := H
            have A58 := Aside0.mk A580
            clear A580
            replace H := Option.bind_eq_some_iff.mp H
            obtain ⟨t432, A590, H⟩ := H
            replace H : (if t432 = true then ((laws_toDyadic.f kj24 a1_0 l1_1 a1_2).bind fun bt433 => ((laws_eqDyadic.f kj24 t419 t420 t423 bt433.1 bt433.2.1 bt433.2.2).bind fun t438 => (if t438 = true then (some true) else (some false)))) else (some false)) = some r := H
            have A59 := Aside0.mk A590
            clear A590
            by_cases c60 : t432 = true
            · subst c60
              have H1 : ((laws_toDyadic.f kj24 a1_0 l1_1 a1_2).bind fun bt433 => ((laws_eqDyadic.f kj24 t419 t420 t423 bt433.1 bt433.2.1 bt433.2.2).bind fun t438 => (if t438 = true then (some true) else (some false)))) = some r := by rw [if_pos rfl] at H; exact H
              clear H
              have H := H1
              clear H1
              replace H := Option.bind_eq_some_iff.mp H
              obtain ⟨⟨t433, t434, t437⟩, A610, H⟩ := H
              replace H : ((laws_eqDyadic.f kj24 t419 t420 t423 t433 t434 t437).bind fun t438 => (if t438 = true then (some true) else (some false))) = some r := H
              have A61 := Aside0.mk A610
              clear A610
              replace H := Option.bind_eq_some_iff.mp H
              obtain ⟨t438, A620, H⟩ := H
              replace H : (if t438 = true then (some true) else (some false)) = some r := H
              have A62 := Aside0.mk A620
              clear A620
              by_cases c63 : t438 = true
              · subst c63
                have H1 : (some true) = some r := by rw [if_pos rfl] at H; exact H
                clear H
                have H := H1
                clear H1
                obtain rfl := Option.some.inj H
                try go_wp2
                have n0_ := Aside0.mk (Kd.R_drew HO_419001.out)
                have n1_ := Aside0.mk (Kd.R_drew HO_425001.out)
                have n2_ := Aside0.mk (blk_drew BK397.out)
                have n3_ := Aside0.mk (blk_drew BK398.out)
                have n4_ := Aside0.mk (blk_drew BK418.out)
                have n5_ := Aside0.mk (blk_drew BK424.out)
                have n6_ := Aside0.mk (below_drew1 HB.out)
                clear HO_419001
                clear HO_425001
                clear BK397
                clear BK398
                clear BK418
                clear BK424
                clear HB
                have HO_419001 := n0_
                have HO_425001 := n1_
                have BK397 := n2_
                have BK398 := n3_
                have BK418 := n4_
                have BK424 := n5_
                have HB := n6_
                clear n0_ n1_ n2_ n3_ n4_ n5_ n6_
                refine start_ (n := 5) (S := fun w' => w'.cell? ⟨gb418, 0, none⟩ = some (.int .i64 t413) ∧ w'.cell? ⟨gb418, 1, none⟩ = some (.slice Ao45 t414.length co45) ∧ w'.cell? ⟨gb418, 2, none⟩ = some (.int .i64 t417) ∧ w'.cell? ⟨gb397, 0, none⟩ = some (.int .i64 a0_0) ∧ w'.cell? ⟨gb397, 1, none⟩ = some (.slice A0_1 l0_1.length c0_1) ∧ w'.cell? ⟨gb397, 2, none⟩ = some (.int .i64 a0_2)) (ds := []) #[false, false, false, false, false] (by kernel_rfl) rfl rfl ⟨(blk_cell BK418.out 0).trans rfl, (blk_cell BK418.out 1).trans rfl, (blk_cell BK418.out 2).trans rfl, (blk_cell BK397.out 0).trans rfl, (blk_cell BK397.out 1).trans rfl, (blk_cell BK397.out 2).trans rfl⟩ (fun hHeld => ?_)
                generalize wc.drew = w64 at HO_419001 HO_425001 BK397 BK398 BK418 BK424 HB hHeld ⊢
                refine take_ (i := 0) (N := some 48) (v := ?_) (a' := ?_) #[true, false, false, false, false] rfl rfl (by kernel_rfl) (fun _ _ _ h => h) (Or.inl ⟨by rfl, ?_⟩) hHeld ?_ ?_
                rotate_left
                · rintro w' ⟨s0, s1, s2, s3, s4, s5⟩
                  go_simp
                  with_reducible rfl
                rotate_left
                · simp only [Act.put, List.setIfInBounds_toArray, List.set_cons_zero, List.set_cons_succ, i64_w, i32_w]
                  rfl
                refine take_ (i := 1) (N := some 49) (v := ?_) (a' := ?_) #[true, true, false, false, false] rfl rfl (by kernel_rfl) (fun _ _ _ h => h) (Or.inl ⟨by rfl, ?_⟩) hHeld ?_ ?_
                rotate_left
                · rintro w' ⟨s0, s1, s2, s3, s4, s5⟩
                  go_simp
                  with_reducible rfl
                rotate_left
                · simp only [Act.put, List.setIfInBounds_toArray, List.set_cons_zero, List.set_cons_succ, i64_w, i32_w]
                  rfl
                refine one_ (i := 2) (N := some 50) #[true, true, true, false, false] rfl rfl (by kernel_rfl) (by decide) (fun K hK => ?_)
                refine goes_ Try.func24 (by kernel_rfl) rfl #[.agg #[.int .i64 a0_0, .slice A0_1 l0_1.length c0_1, .int .i64 a0_2]] (by rfl) rfl rfl (by (try simp only [List.map_toArray, List.map_cons, List.map_nil]); first | done | rfl | (simp only [List.length_drop, List.length_take]; rfl)) ?_
                with_reducible refine (laws_toDyadic.calls kj24 a0_0 _ _ l0_1 a0_2 t427 t428 t431 _ ?side1 ?side2 A58.out).mono ?_
                (case side1 => repeat (first | exact (Kd.C_below HR0_1.out HB.out) | (with_reducible refine Kd.C_alloc ?_ _) | (with_reducible refine Kd.C_drewN ?_ _) | (with_reducible refine Kd.C_drew ?_)))
                (case side2 => exact HC0_1.out)
                rintro e w65 ⟨v429, rfl, ho0, hb⟩
                refine ⟨_, rfl, ?_⟩
                have n0_ := Aside0.mk (Kd.R_elder' (by (with_reducible repeat (first | apply Kd.R_alloc | apply Kd.R_drewN | apply Kd.R_drew)); exact HO_419001.out) (Kd.R_base ho0) hb)
                have n1_ := Aside0.mk (Kd.R_elder' (by (with_reducible repeat (first | apply Kd.R_alloc | apply Kd.R_drewN | apply Kd.R_drew)); exact HO_425001.out) (Kd.R_base ho0) hb)
                have n2_ := Aside0.mk (Kd.R_lower (Kd.R_new' (Kd.R_new' ho0 (Kd.R_lt (by (with_reducible repeat (first | apply Kd.R_alloc | apply Kd.R_drewN | apply Kd.R_drew)); exact HO_419001.out))) (Kd.R_lt (by (with_reducible repeat (first | apply Kd.R_alloc | apply Kd.R_drewN | apply Kd.R_drew)); exact HO_425001.out))) (below_size (by repeat (first | (with_reducible first | exact HB.out | apply below_alloc | apply pw_below_drewN | apply below_drew1 | refine below_set ?_ GE397.out | refine below_set ?_ GE398.out | refine below_set ?_ GE418.out | refine below_set ?_ GE424.out) | exact HB.out))))
                have n3_ := Aside0.mk (blk_below (g := gb397) (o := .cells #[.int .i64 a0_0, .slice A0_1 l0_1.length c0_1, .int .i64 a0_2] 26 (0, 0)) (by (with_reducible repeat (first | refine blk_drewN ?_ _ | refine blk_drew ?_ | refine blk_alloc ?_ _)); exact BK397.out) hb)
                have n4_ := Aside0.mk (blk_below (g := gb398) (o := .cells #[.int .i64 a1_0, .slice A1_1 l1_1.length c1_1, .int .i64 a1_2] 26 (0, 0)) (by (with_reducible repeat (first | refine blk_drewN ?_ _ | refine blk_drew ?_ | refine blk_alloc ?_ _)); exact BK398.out) hb)
                have n5_ := Aside0.mk (blk_below (g := gb418) (o := .cells #[.int .i64 t413, .slice Ao45 t414.length co45, .int .i64 t417] 31 (0, 0)) (by (with_reducible repeat (first | refine blk_drewN ?_ _ | refine blk_drew ?_ | refine blk_alloc ?_ _)); exact BK418.out) hb)
                have n6_ := Aside0.mk (blk_below (g := gb424) (o := .cells #[.int .i64 t419, .slice Ao53 t420.length co53, .int .i64 t423] 31 (0, 0)) (by (with_reducible repeat (first | refine blk_drewN ?_ _ | refine blk_drew ?_ | refine blk_alloc ?_ _)); exact BK424.out) hb)
                have n7_ := Aside0.mk (below_step (by repeat (first | (with_reducible first | exact HB.out | apply below_alloc | apply pw_below_drewN | apply below_drew1 | refine below_set ?_ GE397.out | refine below_set ?_ GE398.out | refine below_set ?_ GE418.out | refine below_set ?_ GE424.out) | exact HB.out)) hb)
                clear HO_419001
                clear HO_425001
                clear BK397
                clear BK398
                clear BK418
                clear BK424
                clear HB
                have HO_419001 := n0_
                have HO_425001 := n1_
                have HO430 := n2_
                have BK397 := n3_
                have BK398 := n4_
                have BK418 := n5_
                have BK424 := n6_
                have HB := n7_
                clear n0_ n1_ n2_ n3_ n4_ n5_ n6_ n7_
                (try clear hb)
                (try clear hb2)
                (try clear hk)
                (try clear hi)
                (try clear ho0)
                obtain ⟨Ao66, co66, eo66⟩ := Kd.R_slice HO430.out
                (first | subst eo66 | (injection eo66 with f1_ f2_ f3_; have f4_ := f1_.symm; have f5_ := f3_.symm; clear f1_ f2_ f3_; subst f4_; subst f5_))
                refine hK.out _ _ ⟨(blk_cell BK418.out 0).trans rfl, (blk_cell BK418.out 1).trans rfl, (blk_cell BK418.out 2).trans rfl, (blk_cell BK397.out 0).trans rfl, (blk_cell BK397.out 1).trans rfl, (blk_cell BK397.out 2).trans rfl⟩ (fun hHeld => ?_)
                clear hK K
                refine norm_ (a' := ?_) ?_ ?_
                rotate_left
                · show Act.put _ (some 50) _ = _
                  simp only [Act.put, List.setIfInBounds_toArray, List.set_cons_zero, List.set_cons_succ, i64_w, i32_w]
                  rfl
                refine one_ (i := 3) (N := some 51) #[true, true, true, true, false] rfl rfl (by kernel_rfl) (by decide) (fun K hK => ?_)
                refine goes_ Try.func26 (by kernel_rfl) rfl #[.agg #[.int .i64 t413, .slice Ao45 t414.length co45, .int .i64 t417], .agg #[.int .i64 t427, .slice Ao66 t428.length co66, .int .i64 t431]] (by rfl) rfl rfl (by (try simp only [List.map_toArray, List.map_cons, List.map_nil]); first | done | rfl | (simp only [List.length_drop, List.length_take]; rfl)) ?_
                with_reducible refine (laws_eqDyadic.calls kj24 t413 _ _ t414 t417 t427 _ _ t428 t431 true _ ?side1 ?side2 ?side3 ?side4 A59.out).mono ?_
                (case side1 => repeat (first | exact (Kd.R_reads' HO_419001.out).2.2 | (with_reducible refine Kd.C_alloc ?_ _) | (with_reducible refine Kd.C_drewN ?_ _) | (with_reducible refine Kd.C_drew ?_)))
                (case side2 => exact (Kd.R_reads' HO_419001.out).2.1)
                (case side3 => repeat (first | exact (Kd.R_reads' HO430.out).2.2 | (with_reducible refine Kd.C_alloc ?_ _) | (with_reducible refine Kd.C_drewN ?_ _) | (with_reducible refine Kd.C_drew ?_)))
                (case side4 => exact (Kd.R_reads' HO430.out).2.1)
                rintro e w67 ⟨rfl, hb⟩
                refine ⟨_, rfl, ?_⟩
                have n0_ := Aside0.mk (Kd.R_below (by (with_reducible repeat (first | apply Kd.R_alloc | apply Kd.R_drewN | apply Kd.R_drew)); exact HO_419001.out) hb)
                have n1_ := Aside0.mk (Kd.R_below (by (with_reducible repeat (first | apply Kd.R_alloc | apply Kd.R_drewN | apply Kd.R_drew)); exact HO_425001.out) hb)
                have n2_ := Aside0.mk (Kd.R_below (by (with_reducible repeat (first | apply Kd.R_alloc | apply Kd.R_drewN | apply Kd.R_drew)); exact HO430.out) hb)
                have n3_ := Aside0.mk (blk_below (g := gb397) (o := .cells #[.int .i64 a0_0, .slice A0_1 l0_1.length c0_1, .int .i64 a0_2] 26 (0, 0)) (by (with_reducible repeat (first | refine blk_drewN ?_ _ | refine blk_drew ?_ | refine blk_alloc ?_ _)); exact BK397.out) hb)
                have n4_ := Aside0.mk (blk_below (g := gb398) (o := .cells #[.int .i64 a1_0, .slice A1_1 l1_1.length c1_1, .int .i64 a1_2] 26 (0, 0)) (by (with_reducible repeat (first | refine blk_drewN ?_ _ | refine blk_drew ?_ | refine blk_alloc ?_ _)); exact BK398.out) hb)
                have n5_ := Aside0.mk (blk_below (g := gb418) (o := .cells #[.int .i64 t413, .slice Ao45 t414.length co45, .int .i64 t417] 31 (0, 0)) (by (with_reducible repeat (first | refine blk_drewN ?_ _ | refine blk_drew ?_ | refine blk_alloc ?_ _)); exact BK418.out) hb)
                have n6_ := Aside0.mk (blk_below (g := gb424) (o := .cells #[.int .i64 t419, .slice Ao53 t420.length co53, .int .i64 t423] 31 (0, 0)) (by (with_reducible repeat (first | refine blk_drewN ?_ _ | refine blk_drew ?_ | refine blk_alloc ?_ _)); exact BK424.out) hb)
                have n7_ := Aside0.mk (below_step (by repeat (first | (with_reducible first | exact HB.out | apply below_alloc | apply pw_below_drewN | apply below_drew1 | refine below_set ?_ GE397.out | refine below_set ?_ GE398.out | refine below_set ?_ GE418.out | refine below_set ?_ GE424.out) | exact HB.out)) hb)
                clear HO_419001
                clear HO_425001
                clear HO430
                clear BK397
                clear BK398
                clear BK418
                clear BK424
                clear HB
                have HO_419001 := n0_
                have HO_425001 := n1_
                have HO430 := n2_
                have BK397 := n3_
                have BK398 := n4_
                have BK418 := n5_
                have BK424 := n6_
                have HB := n7_
                clear n0_ n1_ n2_ n3_ n4_ n5_ n6_ n7_
                (try clear hb)
                (try clear hb2)
                (try clear hk)
                (try clear hi)
                refine hK.out _ _ ⟨(blk_cell BK418.out 0).trans rfl, (blk_cell BK418.out 1).trans rfl, (blk_cell BK418.out 2).trans rfl, (blk_cell BK397.out 0).trans rfl, (blk_cell BK397.out 1).trans rfl, (blk_cell BK397.out 2).trans rfl⟩ (fun hHeld => ?_)
                clear hK K
                refine norm_ (a' := ?_) ?_ ?_
                rotate_left
                · show Act.put _ (some 51) _ = _
                  simp only [Act.put, List.setIfInBounds_toArray, List.set_cons_zero, List.set_cons_succ, i64_w, i32_w]
                  rfl
                refine pure_ (i := 4) (N := some 52) (v := ?_) (a' := ?_) #[true, true, true, true, true] rfl rfl (by kernel_rfl) (fun _ _ _ h => h) (Or.inl ⟨by rfl, ?_⟩) ?_ ?_
                rotate_left
                · intro w'
                  go_simp
                  with_reducible rfl
                rotate_left
                · simp only [Act.put, List.setIfInBounds_toArray, List.set_cons_zero, List.set_cons_succ, i64_w, i32_w]
                  rfl
                refine done_ (by kernel_rfl) ?_
                try go_wp2
                have n0_ := Aside0.mk (Kd.R_drew HO_419001.out)
                have n1_ := Aside0.mk (Kd.R_drew HO_425001.out)
                have n2_ := Aside0.mk (Kd.R_drew HO430.out)
                have n3_ := Aside0.mk (blk_drew BK397.out)
                have n4_ := Aside0.mk (blk_drew BK398.out)
                have n5_ := Aside0.mk (blk_drew BK418.out)
                have n6_ := Aside0.mk (blk_drew BK424.out)
                have n7_ := Aside0.mk (below_drew1 HB.out)
                clear HO_419001
                clear HO_425001
                clear HO430
                clear BK397
                clear BK398
                clear BK418
                clear BK424
                clear HB
                have HO_419001 := n0_
                have HO_425001 := n1_
                have HO430 := n2_
                have BK397 := n3_
                have BK398 := n4_
                have BK418 := n5_
                have BK424 := n6_
                have HB := n7_
                clear n0_ n1_ n2_ n3_ n4_ n5_ n6_ n7_
                refine start_ (n := 5) (S := fun w' => w'.cell? ⟨gb424, 0, none⟩ = some (.int .i64 t419) ∧ w'.cell? ⟨gb424, 1, none⟩ = some (.slice Ao53 t420.length co53) ∧ w'.cell? ⟨gb424, 2, none⟩ = some (.int .i64 t423) ∧ w'.cell? ⟨gb398, 0, none⟩ = some (.int .i64 a1_0) ∧ w'.cell? ⟨gb398, 1, none⟩ = some (.slice A1_1 l1_1.length c1_1) ∧ w'.cell? ⟨gb398, 2, none⟩ = some (.int .i64 a1_2)) (ds := []) #[false, false, false, false, false] (by kernel_rfl) rfl rfl ⟨(blk_cell BK424.out 0).trans rfl, (blk_cell BK424.out 1).trans rfl, (blk_cell BK424.out 2).trans rfl, (blk_cell BK398.out 0).trans rfl, (blk_cell BK398.out 1).trans rfl, (blk_cell BK398.out 2).trans rfl⟩ (fun hHeld => ?_)
                generalize w67.drew = w68 at HO_419001 HO_425001 HO430 BK397 BK398 BK418 BK424 HB hHeld ⊢
                refine take_ (i := 0) (N := some 53) (v := ?_) (a' := ?_) #[true, false, false, false, false] rfl rfl (by kernel_rfl) (fun _ _ _ h => h) (Or.inl ⟨by rfl, ?_⟩) hHeld ?_ ?_
                rotate_left
                · rintro w' ⟨s0, s1, s2, s3, s4, s5⟩
                  go_simp
                  with_reducible rfl
                rotate_left
                · simp only [Act.put, List.setIfInBounds_toArray, List.set_cons_zero, List.set_cons_succ, i64_w, i32_w]
                  rfl
                refine take_ (i := 1) (N := some 54) (v := ?_) (a' := ?_) #[true, true, false, false, false] rfl rfl (by kernel_rfl) (fun _ _ _ h => h) (Or.inl ⟨by rfl, ?_⟩) hHeld ?_ ?_
                rotate_left
                · rintro w' ⟨s0, s1, s2, s3, s4, s5⟩
                  go_simp
                  with_reducible rfl
                rotate_left
                · simp only [Act.put, List.setIfInBounds_toArray, List.set_cons_zero, List.set_cons_succ, i64_w, i32_w]
                  rfl
                refine one_ (i := 2) (N := some 55) #[true, true, true, false, false] rfl rfl (by kernel_rfl) (by decide) (fun K hK => ?_)
                refine goes_ Try.func24 (by kernel_rfl) rfl #[.agg #[.int .i64 a1_0, .slice A1_1 l1_1.length c1_1, .int .i64 a1_2]] (by rfl) rfl rfl (by (try simp only [List.map_toArray, List.map_cons, List.map_nil]); first | done | rfl | (simp only [List.length_drop, List.length_take]; rfl)) ?_
                with_reducible refine (laws_toDyadic.calls kj24 a1_0 _ _ l1_1 a1_2 t433 t434 t437 _ ?side1 ?side2 A61.out).mono ?_
                (case side1 => repeat (first | exact (Kd.C_below HR1_1.out HB.out) | (with_reducible refine Kd.C_alloc ?_ _) | (with_reducible refine Kd.C_drewN ?_ _) | (with_reducible refine Kd.C_drew ?_)))
                (case side2 => exact HC1_1.out)
                rintro e w69 ⟨v435, rfl, ho0, hb⟩
                refine ⟨_, rfl, ?_⟩
                have n0_ := Aside0.mk (Kd.R_elder' (by (with_reducible repeat (first | apply Kd.R_alloc | apply Kd.R_drewN | apply Kd.R_drew)); exact HO_419001.out) (Kd.R_base ho0) hb)
                have n1_ := Aside0.mk (Kd.R_elder' (by (with_reducible repeat (first | apply Kd.R_alloc | apply Kd.R_drewN | apply Kd.R_drew)); exact HO_425001.out) (Kd.R_base ho0) hb)
                have n2_ := Aside0.mk (Kd.R_elder' (by (with_reducible repeat (first | apply Kd.R_alloc | apply Kd.R_drewN | apply Kd.R_drew)); exact HO430.out) (Kd.R_base ho0) hb)
                have n3_ := Aside0.mk (Kd.R_lower (Kd.R_new' (Kd.R_new' (Kd.R_new' ho0 (Kd.R_lt (by (with_reducible repeat (first | apply Kd.R_alloc | apply Kd.R_drewN | apply Kd.R_drew)); exact HO_419001.out))) (Kd.R_lt (by (with_reducible repeat (first | apply Kd.R_alloc | apply Kd.R_drewN | apply Kd.R_drew)); exact HO_425001.out))) (Kd.R_lt (by (with_reducible repeat (first | apply Kd.R_alloc | apply Kd.R_drewN | apply Kd.R_drew)); exact HO430.out))) (below_size (by repeat (first | (with_reducible first | exact HB.out | apply below_alloc | apply pw_below_drewN | apply below_drew1 | refine below_set ?_ GE397.out | refine below_set ?_ GE398.out | refine below_set ?_ GE418.out | refine below_set ?_ GE424.out) | exact HB.out))))
                have n4_ := Aside0.mk (blk_below (g := gb397) (o := .cells #[.int .i64 a0_0, .slice A0_1 l0_1.length c0_1, .int .i64 a0_2] 26 (0, 0)) (by (with_reducible repeat (first | refine blk_drewN ?_ _ | refine blk_drew ?_ | refine blk_alloc ?_ _)); exact BK397.out) hb)
                have n5_ := Aside0.mk (blk_below (g := gb398) (o := .cells #[.int .i64 a1_0, .slice A1_1 l1_1.length c1_1, .int .i64 a1_2] 26 (0, 0)) (by (with_reducible repeat (first | refine blk_drewN ?_ _ | refine blk_drew ?_ | refine blk_alloc ?_ _)); exact BK398.out) hb)
                have n6_ := Aside0.mk (blk_below (g := gb418) (o := .cells #[.int .i64 t413, .slice Ao45 t414.length co45, .int .i64 t417] 31 (0, 0)) (by (with_reducible repeat (first | refine blk_drewN ?_ _ | refine blk_drew ?_ | refine blk_alloc ?_ _)); exact BK418.out) hb)
                have n7_ := Aside0.mk (blk_below (g := gb424) (o := .cells #[.int .i64 t419, .slice Ao53 t420.length co53, .int .i64 t423] 31 (0, 0)) (by (with_reducible repeat (first | refine blk_drewN ?_ _ | refine blk_drew ?_ | refine blk_alloc ?_ _)); exact BK424.out) hb)
                have n8_ := Aside0.mk (below_step (by repeat (first | (with_reducible first | exact HB.out | apply below_alloc | apply pw_below_drewN | apply below_drew1 | refine below_set ?_ GE397.out | refine below_set ?_ GE398.out | refine below_set ?_ GE418.out | refine below_set ?_ GE424.out) | exact HB.out)) hb)
                clear HO_419001
                clear HO_425001
                clear HO430
                clear BK397
                clear BK398
                clear BK418
                clear BK424
                clear HB
                have HO_419001 := n0_
                have HO_425001 := n1_
                have HO430 := n2_
                have HO436 := n3_
                have BK397 := n4_
                have BK398 := n5_
                have BK418 := n6_
                have BK424 := n7_
                have HB := n8_
                clear n0_ n1_ n2_ n3_ n4_ n5_ n6_ n7_ n8_
                (try clear hb)
                (try clear hb2)
                (try clear hk)
                (try clear hi)
                (try clear ho0)
                obtain ⟨Ao70, co70, eo70⟩ := Kd.R_slice HO436.out
                (first | subst eo70 | (injection eo70 with f1_ f2_ f3_; have f4_ := f1_.symm; have f5_ := f3_.symm; clear f1_ f2_ f3_; subst f4_; subst f5_))
                refine hK.out _ _ ⟨(blk_cell BK424.out 0).trans rfl, (blk_cell BK424.out 1).trans rfl, (blk_cell BK424.out 2).trans rfl, (blk_cell BK398.out 0).trans rfl, (blk_cell BK398.out 1).trans rfl, (blk_cell BK398.out 2).trans rfl⟩ (fun hHeld => ?_)
                clear hK K
                refine norm_ (a' := ?_) ?_ ?_
                rotate_left
                · show Act.put _ (some 55) _ = _
                  simp only [Act.put, List.setIfInBounds_toArray, List.set_cons_zero, List.set_cons_succ, i64_w, i32_w]
                  rfl
                refine one_ (i := 3) (N := some 56) #[true, true, true, true, false] rfl rfl (by kernel_rfl) (by decide) (fun K hK => ?_)
                refine goes_ Try.func26 (by kernel_rfl) rfl #[.agg #[.int .i64 t419, .slice Ao53 t420.length co53, .int .i64 t423], .agg #[.int .i64 t433, .slice Ao70 t434.length co70, .int .i64 t437]] (by rfl) rfl rfl (by (try simp only [List.map_toArray, List.map_cons, List.map_nil]); first | done | rfl | (simp only [List.length_drop, List.length_take]; rfl)) ?_
                with_reducible refine (laws_eqDyadic.calls kj24 t419 _ _ t420 t423 t433 _ _ t434 t437 true _ ?side1 ?side2 ?side3 ?side4 A62.out).mono ?_
                (case side1 => repeat (first | exact (Kd.R_reads' HO_425001.out).2.2 | (with_reducible refine Kd.C_alloc ?_ _) | (with_reducible refine Kd.C_drewN ?_ _) | (with_reducible refine Kd.C_drew ?_)))
                (case side2 => exact (Kd.R_reads' HO_425001.out).2.1)
                (case side3 => repeat (first | exact (Kd.R_reads' HO436.out).2.2 | (with_reducible refine Kd.C_alloc ?_ _) | (with_reducible refine Kd.C_drewN ?_ _) | (with_reducible refine Kd.C_drew ?_)))
                (case side4 => exact (Kd.R_reads' HO436.out).2.1)
                rintro e w71 ⟨rfl, hb⟩
                refine ⟨_, rfl, ?_⟩
                have n0_ := Aside0.mk (Kd.R_below (by (with_reducible repeat (first | apply Kd.R_alloc | apply Kd.R_drewN | apply Kd.R_drew)); exact HO_419001.out) hb)
                have n1_ := Aside0.mk (Kd.R_below (by (with_reducible repeat (first | apply Kd.R_alloc | apply Kd.R_drewN | apply Kd.R_drew)); exact HO_425001.out) hb)
                have n2_ := Aside0.mk (Kd.R_below (by (with_reducible repeat (first | apply Kd.R_alloc | apply Kd.R_drewN | apply Kd.R_drew)); exact HO430.out) hb)
                have n3_ := Aside0.mk (Kd.R_below (by (with_reducible repeat (first | apply Kd.R_alloc | apply Kd.R_drewN | apply Kd.R_drew)); exact HO436.out) hb)
                have n4_ := Aside0.mk (blk_below (g := gb397) (o := .cells #[.int .i64 a0_0, .slice A0_1 l0_1.length c0_1, .int .i64 a0_2] 26 (0, 0)) (by (with_reducible repeat (first | refine blk_drewN ?_ _ | refine blk_drew ?_ | refine blk_alloc ?_ _)); exact BK397.out) hb)
                have n5_ := Aside0.mk (blk_below (g := gb398) (o := .cells #[.int .i64 a1_0, .slice A1_1 l1_1.length c1_1, .int .i64 a1_2] 26 (0, 0)) (by (with_reducible repeat (first | refine blk_drewN ?_ _ | refine blk_drew ?_ | refine blk_alloc ?_ _)); exact BK398.out) hb)
                have n6_ := Aside0.mk (blk_below (g := gb418) (o := .cells #[.int .i64 t413, .slice Ao45 t414.length co45, .int .i64 t417] 31 (0, 0)) (by (with_reducible repeat (first | refine blk_drewN ?_ _ | refine blk_drew ?_ | refine blk_alloc ?_ _)); exact BK418.out) hb)
                have n7_ := Aside0.mk (blk_below (g := gb424) (o := .cells #[.int .i64 t419, .slice Ao53 t420.length co53, .int .i64 t423] 31 (0, 0)) (by (with_reducible repeat (first | refine blk_drewN ?_ _ | refine blk_drew ?_ | refine blk_alloc ?_ _)); exact BK424.out) hb)
                have n8_ := Aside0.mk (below_step (by repeat (first | (with_reducible first | exact HB.out | apply below_alloc | apply pw_below_drewN | apply below_drew1 | refine below_set ?_ GE397.out | refine below_set ?_ GE398.out | refine below_set ?_ GE418.out | refine below_set ?_ GE424.out) | exact HB.out)) hb)
                clear HO_419001
                clear HO_425001
                clear HO430
                clear HO436
                clear BK397
                clear BK398
                clear BK418
                clear BK424
                clear HB
                have HO_419001 := n0_
                have HO_425001 := n1_
                have HO430 := n2_
                have HO436 := n3_
                have BK397 := n4_
                have BK398 := n5_
                have BK418 := n6_
                have BK424 := n7_
                have HB := n8_
                clear n0_ n1_ n2_ n3_ n4_ n5_ n6_ n7_ n8_
                (try clear hb)
                (try clear hb2)
                (try clear hk)
                (try clear hi)
                refine hK.out _ _ ⟨(blk_cell BK424.out 0).trans rfl, (blk_cell BK424.out 1).trans rfl, (blk_cell BK424.out 2).trans rfl, (blk_cell BK398.out 0).trans rfl, (blk_cell BK398.out 1).trans rfl, (blk_cell BK398.out 2).trans rfl⟩ (fun hHeld => ?_)
                clear hK K
                refine norm_ (a' := ?_) ?_ ?_
                rotate_left
                · show Act.put _ (some 56) _ = _
                  simp only [Act.put, List.setIfInBounds_toArray, List.set_cons_zero, List.set_cons_succ, i64_w, i32_w]
                  rfl
                refine pure_ (i := 4) (N := some 57) (v := ?_) (a' := ?_) #[true, true, true, true, true] rfl rfl (by kernel_rfl) (fun _ _ _ h => h) (Or.inl ⟨by rfl, ?_⟩) ?_ ?_
                rotate_left
                · intro w'
                  go_simp
                  with_reducible rfl
                rotate_left
                · simp only [Act.put, List.setIfInBounds_toArray, List.set_cons_zero, List.set_cons_succ, i64_w, i32_w]
                  rfl
                refine done_ (by kernel_rfl) ?_
                try go_wp2
                go_ret
                exact ⟨by first | rfl | (simp [errW_none, errW_some] <;> rfl) | (simp [*, errW_none, errW_some] <;> rfl), by repeat (first | (with_reducible first | exact HB.out | apply below_alloc | apply pw_below_drewN | apply below_drew1 | refine below_set ?_ GE397.out | refine below_set ?_ GE398.out | refine below_set ?_ GE418.out | refine below_set ?_ GE424.out) | exact HB.out)⟩
              · replace c63 := Bool.eq_false_iff.mpr c63
                subst c63
                have H1 : (some false) = some r := by rw [if_neg (show ¬ (false = true) by decide)] at H; exact H
                clear H
                have H := H1
                clear H1
                obtain rfl := Option.some.inj H
                try go_wp2
                have n0_ := Aside0.mk (Kd.R_drew HO_419001.out)
                have n1_ := Aside0.mk (Kd.R_drew HO_425001.out)
                have n2_ := Aside0.mk (blk_drew BK397.out)
                have n3_ := Aside0.mk (blk_drew BK398.out)
                have n4_ := Aside0.mk (blk_drew BK418.out)
                have n5_ := Aside0.mk (blk_drew BK424.out)
                have n6_ := Aside0.mk (below_drew1 HB.out)
                clear HO_419001
                clear HO_425001
                clear BK397
                clear BK398
                clear BK418
                clear BK424
                clear HB
                have HO_419001 := n0_
                have HO_425001 := n1_
                have BK397 := n2_
                have BK398 := n3_
                have BK418 := n4_
                have BK424 := n5_
                have HB := n6_
                clear n0_ n1_ n2_ n3_ n4_ n5_ n6_
                refine start_ (n := 5) (S := fun w' => w'.cell? ⟨gb418, 0, none⟩ = some (.int .i64 t413) ∧ w'.cell? ⟨gb418, 1, none⟩ = some (.slice Ao45 t414.length co45) ∧ w'.cell? ⟨gb418, 2, none⟩ = some (.int .i64 t417) ∧ w'.cell? ⟨gb397, 0, none⟩ = some (.int .i64 a0_0) ∧ w'.cell? ⟨gb397, 1, none⟩ = some (.slice A0_1 l0_1.length c0_1) ∧ w'.cell? ⟨gb397, 2, none⟩ = some (.int .i64 a0_2)) (ds := []) #[false, false, false, false, false] (by kernel_rfl) rfl rfl ⟨(blk_cell BK418.out 0).trans rfl, (blk_cell BK418.out 1).trans rfl, (blk_cell BK418.out 2).trans rfl, (blk_cell BK397.out 0).trans rfl, (blk_cell BK397.out 1).trans rfl, (blk_cell BK397.out 2).trans rfl⟩ (fun hHeld => ?_)
                generalize wc.drew = w72 at HO_419001 HO_425001 BK397 BK398 BK418 BK424 HB hHeld ⊢
                refine take_ (i := 0) (N := some 48) (v := ?_) (a' := ?_) #[true, false, false, false, false] rfl rfl (by kernel_rfl) (fun _ _ _ h => h) (Or.inl ⟨by rfl, ?_⟩) hHeld ?_ ?_
                rotate_left
                · rintro w' ⟨s0, s1, s2, s3, s4, s5⟩
                  go_simp
                  with_reducible rfl
                rotate_left
                · simp only [Act.put, List.setIfInBounds_toArray, List.set_cons_zero, List.set_cons_succ, i64_w, i32_w]
                  rfl
                refine take_ (i := 1) (N := some 49) (v := ?_) (a' := ?_) #[true, true, false, false, false] rfl rfl (by kernel_rfl) (fun _ _ _ h => h) (Or.inl ⟨by rfl, ?_⟩) hHeld ?_ ?_
                rotate_left
                · rintro w' ⟨s0, s1, s2, s3, s4, s5⟩
                  go_simp
                  with_reducible rfl
                rotate_left
                · simp only [Act.put, List.setIfInBounds_toArray, List.set_cons_zero, List.set_cons_succ, i64_w, i32_w]
                  rfl
                refine one_ (i := 2) (N := some 50) #[true, true, true, false, false] rfl rfl (by kernel_rfl) (by decide) (fun K hK => ?_)
                refine goes_ Try.func24 (by kernel_rfl) rfl #[.agg #[.int .i64 a0_0, .slice A0_1 l0_1.length c0_1, .int .i64 a0_2]] (by rfl) rfl rfl (by (try simp only [List.map_toArray, List.map_cons, List.map_nil]); first | done | rfl | (simp only [List.length_drop, List.length_take]; rfl)) ?_
                with_reducible refine (laws_toDyadic.calls kj24 a0_0 _ _ l0_1 a0_2 t427 t428 t431 _ ?side1 ?side2 A58.out).mono ?_
                (case side1 => repeat (first | exact (Kd.C_below HR0_1.out HB.out) | (with_reducible refine Kd.C_alloc ?_ _) | (with_reducible refine Kd.C_drewN ?_ _) | (with_reducible refine Kd.C_drew ?_)))
                (case side2 => exact HC0_1.out)
                rintro e w73 ⟨v429, rfl, ho0, hb⟩
                refine ⟨_, rfl, ?_⟩
                have n0_ := Aside0.mk (Kd.R_elder' (by (with_reducible repeat (first | apply Kd.R_alloc | apply Kd.R_drewN | apply Kd.R_drew)); exact HO_419001.out) (Kd.R_base ho0) hb)
                have n1_ := Aside0.mk (Kd.R_elder' (by (with_reducible repeat (first | apply Kd.R_alloc | apply Kd.R_drewN | apply Kd.R_drew)); exact HO_425001.out) (Kd.R_base ho0) hb)
                have n2_ := Aside0.mk (Kd.R_lower (Kd.R_new' (Kd.R_new' ho0 (Kd.R_lt (by (with_reducible repeat (first | apply Kd.R_alloc | apply Kd.R_drewN | apply Kd.R_drew)); exact HO_419001.out))) (Kd.R_lt (by (with_reducible repeat (first | apply Kd.R_alloc | apply Kd.R_drewN | apply Kd.R_drew)); exact HO_425001.out))) (below_size (by repeat (first | (with_reducible first | exact HB.out | apply below_alloc | apply pw_below_drewN | apply below_drew1 | refine below_set ?_ GE397.out | refine below_set ?_ GE398.out | refine below_set ?_ GE418.out | refine below_set ?_ GE424.out) | exact HB.out))))
                have n3_ := Aside0.mk (blk_below (g := gb397) (o := .cells #[.int .i64 a0_0, .slice A0_1 l0_1.length c0_1, .int .i64 a0_2] 26 (0, 0)) (by (with_reducible repeat (first | refine blk_drewN ?_ _ | refine blk_drew ?_ | refine blk_alloc ?_ _)); exact BK397.out) hb)
                have n4_ := Aside0.mk (blk_below (g := gb398) (o := .cells #[.int .i64 a1_0, .slice A1_1 l1_1.length c1_1, .int .i64 a1_2] 26 (0, 0)) (by (with_reducible repeat (first | refine blk_drewN ?_ _ | refine blk_drew ?_ | refine blk_alloc ?_ _)); exact BK398.out) hb)
                have n5_ := Aside0.mk (blk_below (g := gb418) (o := .cells #[.int .i64 t413, .slice Ao45 t414.length co45, .int .i64 t417] 31 (0, 0)) (by (with_reducible repeat (first | refine blk_drewN ?_ _ | refine blk_drew ?_ | refine blk_alloc ?_ _)); exact BK418.out) hb)
                have n6_ := Aside0.mk (blk_below (g := gb424) (o := .cells #[.int .i64 t419, .slice Ao53 t420.length co53, .int .i64 t423] 31 (0, 0)) (by (with_reducible repeat (first | refine blk_drewN ?_ _ | refine blk_drew ?_ | refine blk_alloc ?_ _)); exact BK424.out) hb)
                have n7_ := Aside0.mk (below_step (by repeat (first | (with_reducible first | exact HB.out | apply below_alloc | apply pw_below_drewN | apply below_drew1 | refine below_set ?_ GE397.out | refine below_set ?_ GE398.out | refine below_set ?_ GE418.out | refine below_set ?_ GE424.out) | exact HB.out)) hb)
                clear HO_419001
                clear HO_425001
                clear BK397
                clear BK398
                clear BK418
                clear BK424
                clear HB
                have HO_419001 := n0_
                have HO_425001 := n1_
                have HO430 := n2_
                have BK397 := n3_
                have BK398 := n4_
                have BK418 := n5_
                have BK424 := n6_
                have HB := n7_
                clear n0_ n1_ n2_ n3_ n4_ n5_ n6_ n7_
                (try clear hb)
                (try clear hb2)
                (try clear hk)
                (try clear hi)
                (try clear ho0)
                obtain ⟨Ao74, co74, eo74⟩ := Kd.R_slice HO430.out
                (first | subst eo74 | (injection eo74 with f1_ f2_ f3_; have f4_ := f1_.symm; have f5_ := f3_.symm; clear f1_ f2_ f3_; subst f4_; subst f5_))
                refine hK.out _ _ ⟨(blk_cell BK418.out 0).trans rfl, (blk_cell BK418.out 1).trans rfl, (blk_cell BK418.out 2).trans rfl, (blk_cell BK397.out 0).trans rfl, (blk_cell BK397.out 1).trans rfl, (blk_cell BK397.out 2).trans rfl⟩ (fun hHeld => ?_)
                clear hK K
                refine norm_ (a' := ?_) ?_ ?_
                rotate_left
                · show Act.put _ (some 50) _ = _
                  simp only [Act.put, List.setIfInBounds_toArray, List.set_cons_zero, List.set_cons_succ, i64_w, i32_w]
                  rfl
                refine one_ (i := 3) (N := some 51) #[true, true, true, true, false] rfl rfl (by kernel_rfl) (by decide) (fun K hK => ?_)
                refine goes_ Try.func26 (by kernel_rfl) rfl #[.agg #[.int .i64 t413, .slice Ao45 t414.length co45, .int .i64 t417], .agg #[.int .i64 t427, .slice Ao74 t428.length co74, .int .i64 t431]] (by rfl) rfl rfl (by (try simp only [List.map_toArray, List.map_cons, List.map_nil]); first | done | rfl | (simp only [List.length_drop, List.length_take]; rfl)) ?_
                with_reducible refine (laws_eqDyadic.calls kj24 t413 _ _ t414 t417 t427 _ _ t428 t431 true _ ?side1 ?side2 ?side3 ?side4 A59.out).mono ?_
                (case side1 => repeat (first | exact (Kd.R_reads' HO_419001.out).2.2 | (with_reducible refine Kd.C_alloc ?_ _) | (with_reducible refine Kd.C_drewN ?_ _) | (with_reducible refine Kd.C_drew ?_)))
                (case side2 => exact (Kd.R_reads' HO_419001.out).2.1)
                (case side3 => repeat (first | exact (Kd.R_reads' HO430.out).2.2 | (with_reducible refine Kd.C_alloc ?_ _) | (with_reducible refine Kd.C_drewN ?_ _) | (with_reducible refine Kd.C_drew ?_)))
                (case side4 => exact (Kd.R_reads' HO430.out).2.1)
                rintro e w75 ⟨rfl, hb⟩
                refine ⟨_, rfl, ?_⟩
                have n0_ := Aside0.mk (Kd.R_below (by (with_reducible repeat (first | apply Kd.R_alloc | apply Kd.R_drewN | apply Kd.R_drew)); exact HO_419001.out) hb)
                have n1_ := Aside0.mk (Kd.R_below (by (with_reducible repeat (first | apply Kd.R_alloc | apply Kd.R_drewN | apply Kd.R_drew)); exact HO_425001.out) hb)
                have n2_ := Aside0.mk (Kd.R_below (by (with_reducible repeat (first | apply Kd.R_alloc | apply Kd.R_drewN | apply Kd.R_drew)); exact HO430.out) hb)
                have n3_ := Aside0.mk (blk_below (g := gb397) (o := .cells #[.int .i64 a0_0, .slice A0_1 l0_1.length c0_1, .int .i64 a0_2] 26 (0, 0)) (by (with_reducible repeat (first | refine blk_drewN ?_ _ | refine blk_drew ?_ | refine blk_alloc ?_ _)); exact BK397.out) hb)
                have n4_ := Aside0.mk (blk_below (g := gb398) (o := .cells #[.int .i64 a1_0, .slice A1_1 l1_1.length c1_1, .int .i64 a1_2] 26 (0, 0)) (by (with_reducible repeat (first | refine blk_drewN ?_ _ | refine blk_drew ?_ | refine blk_alloc ?_ _)); exact BK398.out) hb)
                have n5_ := Aside0.mk (blk_below (g := gb418) (o := .cells #[.int .i64 t413, .slice Ao45 t414.length co45, .int .i64 t417] 31 (0, 0)) (by (with_reducible repeat (first | refine blk_drewN ?_ _ | refine blk_drew ?_ | refine blk_alloc ?_ _)); exact BK418.out) hb)
                have n6_ := Aside0.mk (blk_below (g := gb424) (o := .cells #[.int .i64 t419, .slice Ao53 t420.length co53, .int .i64 t423] 31 (0, 0)) (by (with_reducible repeat (first | refine blk_drewN ?_ _ | refine blk_drew ?_ | refine blk_alloc ?_ _)); exact BK424.out) hb)
                have n7_ := Aside0.mk (below_step (by repeat (first | (with_reducible first | exact HB.out | apply below_alloc | apply pw_below_drewN | apply below_drew1 | refine below_set ?_ GE397.out | refine below_set ?_ GE398.out | refine below_set ?_ GE418.out | refine below_set ?_ GE424.out) | exact HB.out)) hb)
                clear HO_419001
                clear HO_425001
                clear HO430
                clear BK397
                clear BK398
                clear BK418
                clear BK424
                clear HB
                have HO_419001 := n0_
                have HO_425001 := n1_
                have HO430 := n2_
                have BK397 := n3_
                have BK398 := n4_
                have BK418 := n5_
                have BK424 := n6_
                have HB := n7_
                clear n0_ n1_ n2_ n3_ n4_ n5_ n6_ n7_
                (try clear hb)
                (try clear hb2)
                (try clear hk)
                (try clear hi)
                refine hK.out _ _ ⟨(blk_cell BK418.out 0).trans rfl, (blk_cell BK418.out 1).trans rfl, (blk_cell BK418.out 2).trans rfl, (blk_cell BK397.out 0).trans rfl, (blk_cell BK397.out 1).trans rfl, (blk_cell BK397.out 2).trans rfl⟩ (fun hHeld => ?_)
                clear hK K
                refine norm_ (a' := ?_) ?_ ?_
                rotate_left
                · show Act.put _ (some 51) _ = _
                  simp only [Act.put, List.setIfInBounds_toArray, List.set_cons_zero, List.set_cons_succ, i64_w, i32_w]
                  rfl
                refine pure_ (i := 4) (N := some 52) (v := ?_) (a' := ?_) #[true, true, true, true, true] rfl rfl (by kernel_rfl) (fun _ _ _ h => h) (Or.inl ⟨by rfl, ?_⟩) ?_ ?_
                rotate_left
                · intro w'
                  go_simp
                  with_reducible rfl
                rotate_left
                · simp only [Act.put, List.setIfInBounds_toArray, List.set_cons_zero, List.set_cons_succ, i64_w, i32_w]
                  rfl
                refine done_ (by kernel_rfl) ?_
                try go_wp2
                have n0_ := Aside0.mk (Kd.R_drew HO_419001.out)
                have n1_ := Aside0.mk (Kd.R_drew HO_425001.out)
                have n2_ := Aside0.mk (Kd.R_drew HO430.out)
                have n3_ := Aside0.mk (blk_drew BK397.out)
                have n4_ := Aside0.mk (blk_drew BK398.out)
                have n5_ := Aside0.mk (blk_drew BK418.out)
                have n6_ := Aside0.mk (blk_drew BK424.out)
                have n7_ := Aside0.mk (below_drew1 HB.out)
                clear HO_419001
                clear HO_425001
                clear HO430
                clear BK397
                clear BK398
                clear BK418
                clear BK424
                clear HB
                have HO_419001 := n0_
                have HO_425001 := n1_
                have HO430 := n2_
                have BK397 := n3_
                have BK398 := n4_
                have BK418 := n5_
                have BK424 := n6_
                have HB := n7_
                clear n0_ n1_ n2_ n3_ n4_ n5_ n6_ n7_
                refine start_ (n := 5) (S := fun w' => w'.cell? ⟨gb424, 0, none⟩ = some (.int .i64 t419) ∧ w'.cell? ⟨gb424, 1, none⟩ = some (.slice Ao53 t420.length co53) ∧ w'.cell? ⟨gb424, 2, none⟩ = some (.int .i64 t423) ∧ w'.cell? ⟨gb398, 0, none⟩ = some (.int .i64 a1_0) ∧ w'.cell? ⟨gb398, 1, none⟩ = some (.slice A1_1 l1_1.length c1_1) ∧ w'.cell? ⟨gb398, 2, none⟩ = some (.int .i64 a1_2)) (ds := []) #[false, false, false, false, false] (by kernel_rfl) rfl rfl ⟨(blk_cell BK424.out 0).trans rfl, (blk_cell BK424.out 1).trans rfl, (blk_cell BK424.out 2).trans rfl, (blk_cell BK398.out 0).trans rfl, (blk_cell BK398.out 1).trans rfl, (blk_cell BK398.out 2).trans rfl⟩ (fun hHeld => ?_)
                generalize w75.drew = w76 at HO_419001 HO_425001 HO430 BK397 BK398 BK418 BK424 HB hHeld ⊢
                refine take_ (i := 0) (N := some 53) (v := ?_) (a' := ?_) #[true, false, false, false, false] rfl rfl (by kernel_rfl) (fun _ _ _ h => h) (Or.inl ⟨by rfl, ?_⟩) hHeld ?_ ?_
                rotate_left
                · rintro w' ⟨s0, s1, s2, s3, s4, s5⟩
                  go_simp
                  with_reducible rfl
                rotate_left
                · simp only [Act.put, List.setIfInBounds_toArray, List.set_cons_zero, List.set_cons_succ, i64_w, i32_w]
                  rfl
                refine take_ (i := 1) (N := some 54) (v := ?_) (a' := ?_) #[true, true, false, false, false] rfl rfl (by kernel_rfl) (fun _ _ _ h => h) (Or.inl ⟨by rfl, ?_⟩) hHeld ?_ ?_
                rotate_left
                · rintro w' ⟨s0, s1, s2, s3, s4, s5⟩
                  go_simp
                  with_reducible rfl
                rotate_left
                · simp only [Act.put, List.setIfInBounds_toArray, List.set_cons_zero, List.set_cons_succ, i64_w, i32_w]
                  rfl
                refine one_ (i := 2) (N := some 55) #[true, true, true, false, false] rfl rfl (by kernel_rfl) (by decide) (fun K hK => ?_)
                refine goes_ Try.func24 (by kernel_rfl) rfl #[.agg #[.int .i64 a1_0, .slice A1_1 l1_1.length c1_1, .int .i64 a1_2]] (by rfl) rfl rfl (by (try simp only [List.map_toArray, List.map_cons, List.map_nil]); first | done | rfl | (simp only [List.length_drop, List.length_take]; rfl)) ?_
                with_reducible refine (laws_toDyadic.calls kj24 a1_0 _ _ l1_1 a1_2 t433 t434 t437 _ ?side1 ?side2 A61.out).mono ?_
                (case side1 => repeat (first | exact (Kd.C_below HR1_1.out HB.out) | (with_reducible refine Kd.C_alloc ?_ _) | (with_reducible refine Kd.C_drewN ?_ _) | (with_reducible refine Kd.C_drew ?_)))
                (case side2 => exact HC1_1.out)
                rintro e w77 ⟨v435, rfl, ho0, hb⟩
                refine ⟨_, rfl, ?_⟩
                have n0_ := Aside0.mk (Kd.R_elder' (by (with_reducible repeat (first | apply Kd.R_alloc | apply Kd.R_drewN | apply Kd.R_drew)); exact HO_419001.out) (Kd.R_base ho0) hb)
                have n1_ := Aside0.mk (Kd.R_elder' (by (with_reducible repeat (first | apply Kd.R_alloc | apply Kd.R_drewN | apply Kd.R_drew)); exact HO_425001.out) (Kd.R_base ho0) hb)
                have n2_ := Aside0.mk (Kd.R_elder' (by (with_reducible repeat (first | apply Kd.R_alloc | apply Kd.R_drewN | apply Kd.R_drew)); exact HO430.out) (Kd.R_base ho0) hb)
                have n3_ := Aside0.mk (Kd.R_lower (Kd.R_new' (Kd.R_new' (Kd.R_new' ho0 (Kd.R_lt (by (with_reducible repeat (first | apply Kd.R_alloc | apply Kd.R_drewN | apply Kd.R_drew)); exact HO_419001.out))) (Kd.R_lt (by (with_reducible repeat (first | apply Kd.R_alloc | apply Kd.R_drewN | apply Kd.R_drew)); exact HO_425001.out))) (Kd.R_lt (by (with_reducible repeat (first | apply Kd.R_alloc | apply Kd.R_drewN | apply Kd.R_drew)); exact HO430.out))) (below_size (by repeat (first | (with_reducible first | exact HB.out | apply below_alloc | apply pw_below_drewN | apply below_drew1 | refine below_set ?_ GE397.out | refine below_set ?_ GE398.out | refine below_set ?_ GE418.out | refine below_set ?_ GE424.out) | exact HB.out))))
                have n4_ := Aside0.mk (blk_below (g := gb397) (o := .cells #[.int .i64 a0_0, .slice A0_1 l0_1.length c0_1, .int .i64 a0_2] 26 (0, 0)) (by (with_reducible repeat (first | refine blk_drewN ?_ _ | refine blk_drew ?_ | refine blk_alloc ?_ _)); exact BK397.out) hb)
                have n5_ := Aside0.mk (blk_below (g := gb398) (o := .cells #[.int .i64 a1_0, .slice A1_1 l1_1.length c1_1, .int .i64 a1_2] 26 (0, 0)) (by (with_reducible repeat (first | refine blk_drewN ?_ _ | refine blk_drew ?_ | refine blk_alloc ?_ _)); exact BK398.out) hb)
                have n6_ := Aside0.mk (blk_below (g := gb418) (o := .cells #[.int .i64 t413, .slice Ao45 t414.length co45, .int .i64 t417] 31 (0, 0)) (by (with_reducible repeat (first | refine blk_drewN ?_ _ | refine blk_drew ?_ | refine blk_alloc ?_ _)); exact BK418.out) hb)
                have n7_ := Aside0.mk (blk_below (g := gb424) (o := .cells #[.int .i64 t419, .slice Ao53 t420.length co53, .int .i64 t423] 31 (0, 0)) (by (with_reducible repeat (first | refine blk_drewN ?_ _ | refine blk_drew ?_ | refine blk_alloc ?_ _)); exact BK424.out) hb)
                have n8_ := Aside0.mk (below_step (by repeat (first | (with_reducible first | exact HB.out | apply below_alloc | apply pw_below_drewN | apply below_drew1 | refine below_set ?_ GE397.out | refine below_set ?_ GE398.out | refine below_set ?_ GE418.out | refine below_set ?_ GE424.out) | exact HB.out)) hb)
                clear HO_419001
                clear HO_425001
                clear HO430
                clear BK397
                clear BK398
                clear BK418
                clear BK424
                clear HB
                have HO_419001 := n0_
                have HO_425001 := n1_
                have HO430 := n2_
                have HO436 := n3_
                have BK397 := n4_
                have BK398 := n5_
                have BK418 := n6_
                have BK424 := n7_
                have HB := n8_
                clear n0_ n1_ n2_ n3_ n4_ n5_ n6_ n7_ n8_
                (try clear hb)
                (try clear hb2)
                (try clear hk)
                (try clear hi)
                (try clear ho0)
                obtain ⟨Ao78, co78, eo78⟩ := Kd.R_slice HO436.out
                (first | subst eo78 | (injection eo78 with f1_ f2_ f3_; have f4_ := f1_.symm; have f5_ := f3_.symm; clear f1_ f2_ f3_; subst f4_; subst f5_))
                refine hK.out _ _ ⟨(blk_cell BK424.out 0).trans rfl, (blk_cell BK424.out 1).trans rfl, (blk_cell BK424.out 2).trans rfl, (blk_cell BK398.out 0).trans rfl, (blk_cell BK398.out 1).trans rfl, (blk_cell BK398.out 2).trans rfl⟩ (fun hHeld => ?_)
                clear hK K
                refine norm_ (a' := ?_) ?_ ?_
                rotate_left
                · show Act.put _ (some 55) _ = _
                  simp only [Act.put, List.setIfInBounds_toArray, List.set_cons_zero, List.set_cons_succ, i64_w, i32_w]
                  rfl
                refine one_ (i := 3) (N := some 56) #[true, true, true, true, false] rfl rfl (by kernel_rfl) (by decide) (fun K hK => ?_)
                refine goes_ Try.func26 (by kernel_rfl) rfl #[.agg #[.int .i64 t419, .slice Ao53 t420.length co53, .int .i64 t423], .agg #[.int .i64 t433, .slice Ao78 t434.length co78, .int .i64 t437]] (by rfl) rfl rfl (by (try simp only [List.map_toArray, List.map_cons, List.map_nil]); first | done | rfl | (simp only [List.length_drop, List.length_take]; rfl)) ?_
                with_reducible refine (laws_eqDyadic.calls kj24 t419 _ _ t420 t423 t433 _ _ t434 t437 false _ ?side1 ?side2 ?side3 ?side4 A62.out).mono ?_
                (case side1 => repeat (first | exact (Kd.R_reads' HO_425001.out).2.2 | (with_reducible refine Kd.C_alloc ?_ _) | (with_reducible refine Kd.C_drewN ?_ _) | (with_reducible refine Kd.C_drew ?_)))
                (case side2 => exact (Kd.R_reads' HO_425001.out).2.1)
                (case side3 => repeat (first | exact (Kd.R_reads' HO436.out).2.2 | (with_reducible refine Kd.C_alloc ?_ _) | (with_reducible refine Kd.C_drewN ?_ _) | (with_reducible refine Kd.C_drew ?_)))
                (case side4 => exact (Kd.R_reads' HO436.out).2.1)
                rintro e w79 ⟨rfl, hb⟩
                refine ⟨_, rfl, ?_⟩
                have n0_ := Aside0.mk (Kd.R_below (by (with_reducible repeat (first | apply Kd.R_alloc | apply Kd.R_drewN | apply Kd.R_drew)); exact HO_419001.out) hb)
                have n1_ := Aside0.mk (Kd.R_below (by (with_reducible repeat (first | apply Kd.R_alloc | apply Kd.R_drewN | apply Kd.R_drew)); exact HO_425001.out) hb)
                have n2_ := Aside0.mk (Kd.R_below (by (with_reducible repeat (first | apply Kd.R_alloc | apply Kd.R_drewN | apply Kd.R_drew)); exact HO430.out) hb)
                have n3_ := Aside0.mk (Kd.R_below (by (with_reducible repeat (first | apply Kd.R_alloc | apply Kd.R_drewN | apply Kd.R_drew)); exact HO436.out) hb)
                have n4_ := Aside0.mk (blk_below (g := gb397) (o := .cells #[.int .i64 a0_0, .slice A0_1 l0_1.length c0_1, .int .i64 a0_2] 26 (0, 0)) (by (with_reducible repeat (first | refine blk_drewN ?_ _ | refine blk_drew ?_ | refine blk_alloc ?_ _)); exact BK397.out) hb)
                have n5_ := Aside0.mk (blk_below (g := gb398) (o := .cells #[.int .i64 a1_0, .slice A1_1 l1_1.length c1_1, .int .i64 a1_2] 26 (0, 0)) (by (with_reducible repeat (first | refine blk_drewN ?_ _ | refine blk_drew ?_ | refine blk_alloc ?_ _)); exact BK398.out) hb)
                have n6_ := Aside0.mk (blk_below (g := gb418) (o := .cells #[.int .i64 t413, .slice Ao45 t414.length co45, .int .i64 t417] 31 (0, 0)) (by (with_reducible repeat (first | refine blk_drewN ?_ _ | refine blk_drew ?_ | refine blk_alloc ?_ _)); exact BK418.out) hb)
                have n7_ := Aside0.mk (blk_below (g := gb424) (o := .cells #[.int .i64 t419, .slice Ao53 t420.length co53, .int .i64 t423] 31 (0, 0)) (by (with_reducible repeat (first | refine blk_drewN ?_ _ | refine blk_drew ?_ | refine blk_alloc ?_ _)); exact BK424.out) hb)
                have n8_ := Aside0.mk (below_step (by repeat (first | (with_reducible first | exact HB.out | apply below_alloc | apply pw_below_drewN | apply below_drew1 | refine below_set ?_ GE397.out | refine below_set ?_ GE398.out | refine below_set ?_ GE418.out | refine below_set ?_ GE424.out) | exact HB.out)) hb)
                clear HO_419001
                clear HO_425001
                clear HO430
                clear HO436
                clear BK397
                clear BK398
                clear BK418
                clear BK424
                clear HB
                have HO_419001 := n0_
                have HO_425001 := n1_
                have HO430 := n2_
                have HO436 := n3_
                have BK397 := n4_
                have BK398 := n5_
                have BK418 := n6_
                have BK424 := n7_
                have HB := n8_
                clear n0_ n1_ n2_ n3_ n4_ n5_ n6_ n7_ n8_
                (try clear hb)
                (try clear hb2)
                (try clear hk)
                (try clear hi)
                refine hK.out _ _ ⟨(blk_cell BK424.out 0).trans rfl, (blk_cell BK424.out 1).trans rfl, (blk_cell BK424.out 2).trans rfl, (blk_cell BK398.out 0).trans rfl, (blk_cell BK398.out 1).trans rfl, (blk_cell BK398.out 2).trans rfl⟩ (fun hHeld => ?_)
                clear hK K
                refine norm_ (a' := ?_) ?_ ?_
                rotate_left
                · show Act.put _ (some 56) _ = _
                  simp only [Act.put, List.setIfInBounds_toArray, List.set_cons_zero, List.set_cons_succ, i64_w, i32_w]
                  rfl
                refine pure_ (i := 4) (N := some 57) (v := ?_) (a' := ?_) #[true, true, true, true, true] rfl rfl (by kernel_rfl) (fun _ _ _ h => h) (Or.inl ⟨by rfl, ?_⟩) ?_ ?_
                rotate_left
                · intro w'
                  go_simp
                  with_reducible rfl
                rotate_left
                · simp only [Act.put, List.setIfInBounds_toArray, List.set_cons_zero, List.set_cons_succ, i64_w, i32_w]
                  rfl
                refine done_ (by kernel_rfl) ?_
                try go_wp2
                go_ret
                exact ⟨by first | rfl | (simp [errW_none, errW_some] <;> rfl) | (simp [*, errW_none, errW_some] <;> rfl), by repeat (first | (with_reducible first | exact HB.out | apply below_alloc | apply pw_below_drewN | apply below_drew1 | refine below_set ?_ GE397.out | refine below_set ?_ GE398.out | refine below_set ?_ GE418.out | refine below_set ?_ GE424.out) | exact HB.out)⟩
            · replace c60 := Bool.eq_false_iff.mpr c60
              subst c60
              have H1 : (some false) = some r := by rw [if_neg (show ¬ (false = true) by decide)] at H; exact H
              clear H
              have H := H1
              clear H1
              obtain rfl := Option.some.inj H
              try go_wp2
              have n0_ := Aside0.mk (Kd.R_drew HO_419001.out)
              have n1_ := Aside0.mk (Kd.R_drew HO_425001.out)
              have n2_ := Aside0.mk (blk_drew BK397.out)
              have n3_ := Aside0.mk (blk_drew BK398.out)
              have n4_ := Aside0.mk (blk_drew BK418.out)
              have n5_ := Aside0.mk (blk_drew BK424.out)
              have n6_ := Aside0.mk (below_drew1 HB.out)
              clear HO_419001
              clear HO_425001
              clear BK397
              clear BK398
              clear BK418
              clear BK424
              clear HB
              have HO_419001 := n0_
              have HO_425001 := n1_
              have BK397 := n2_
              have BK398 := n3_
              have BK418 := n4_
              have BK424 := n5_
              have HB := n6_
              clear n0_ n1_ n2_ n3_ n4_ n5_ n6_
              refine start_ (n := 5) (S := fun w' => w'.cell? ⟨gb418, 0, none⟩ = some (.int .i64 t413) ∧ w'.cell? ⟨gb418, 1, none⟩ = some (.slice Ao45 t414.length co45) ∧ w'.cell? ⟨gb418, 2, none⟩ = some (.int .i64 t417) ∧ w'.cell? ⟨gb397, 0, none⟩ = some (.int .i64 a0_0) ∧ w'.cell? ⟨gb397, 1, none⟩ = some (.slice A0_1 l0_1.length c0_1) ∧ w'.cell? ⟨gb397, 2, none⟩ = some (.int .i64 a0_2)) (ds := []) #[false, false, false, false, false] (by kernel_rfl) rfl rfl ⟨(blk_cell BK418.out 0).trans rfl, (blk_cell BK418.out 1).trans rfl, (blk_cell BK418.out 2).trans rfl, (blk_cell BK397.out 0).trans rfl, (blk_cell BK397.out 1).trans rfl, (blk_cell BK397.out 2).trans rfl⟩ (fun hHeld => ?_)
              generalize wc.drew = w80 at HO_419001 HO_425001 BK397 BK398 BK418 BK424 HB hHeld ⊢
              refine take_ (i := 0) (N := some 48) (v := ?_) (a' := ?_) #[true, false, false, false, false] rfl rfl (by kernel_rfl) (fun _ _ _ h => h) (Or.inl ⟨by rfl, ?_⟩) hHeld ?_ ?_
              rotate_left
              · rintro w' ⟨s0, s1, s2, s3, s4, s5⟩
                go_simp
                with_reducible rfl
              rotate_left
              · simp only [Act.put, List.setIfInBounds_toArray, List.set_cons_zero, List.set_cons_succ, i64_w, i32_w]
                rfl
              refine take_ (i := 1) (N := some 49) (v := ?_) (a' := ?_) #[true, true, false, false, false] rfl rfl (by kernel_rfl) (fun _ _ _ h => h) (Or.inl ⟨by rfl, ?_⟩) hHeld ?_ ?_
              rotate_left
              · rintro w' ⟨s0, s1, s2, s3, s4, s5⟩
                go_simp
                with_reducible rfl
              rotate_left
              · simp only [Act.put, List.setIfInBounds_toArray, List.set_cons_zero, List.set_cons_succ, i64_w, i32_w]
                rfl
              refine one_ (i := 2) (N := some 50) #[true, true, true, false, false] rfl rfl (by kernel_rfl) (by decide) (fun K hK => ?_)
              refine goes_ Try.func24 (by kernel_rfl) rfl #[.agg #[.int .i64 a0_0, .slice A0_1 l0_1.length c0_1, .int .i64 a0_2]] (by rfl) rfl rfl (by (try simp only [List.map_toArray, List.map_cons, List.map_nil]); first | done | rfl | (simp only [List.length_drop, List.length_take]; rfl)) ?_
              with_reducible refine (laws_toDyadic.calls kj24 a0_0 _ _ l0_1 a0_2 t427 t428 t431 _ ?side1 ?side2 A58.out).mono ?_
              (case side1 => repeat (first | exact (Kd.C_below HR0_1.out HB.out) | (with_reducible refine Kd.C_alloc ?_ _) | (with_reducible refine Kd.C_drewN ?_ _) | (with_reducible refine Kd.C_drew ?_)))
              (case side2 => exact HC0_1.out)
              rintro e w81 ⟨v429, rfl, ho0, hb⟩
              refine ⟨_, rfl, ?_⟩
              have n0_ := Aside0.mk (Kd.R_elder' (by (with_reducible repeat (first | apply Kd.R_alloc | apply Kd.R_drewN | apply Kd.R_drew)); exact HO_419001.out) (Kd.R_base ho0) hb)
              have n1_ := Aside0.mk (Kd.R_elder' (by (with_reducible repeat (first | apply Kd.R_alloc | apply Kd.R_drewN | apply Kd.R_drew)); exact HO_425001.out) (Kd.R_base ho0) hb)
              have n2_ := Aside0.mk (Kd.R_lower (Kd.R_new' (Kd.R_new' ho0 (Kd.R_lt (by (with_reducible repeat (first | apply Kd.R_alloc | apply Kd.R_drewN | apply Kd.R_drew)); exact HO_419001.out))) (Kd.R_lt (by (with_reducible repeat (first | apply Kd.R_alloc | apply Kd.R_drewN | apply Kd.R_drew)); exact HO_425001.out))) (below_size (by repeat (first | (with_reducible first | exact HB.out | apply below_alloc | apply pw_below_drewN | apply below_drew1 | refine below_set ?_ GE397.out | refine below_set ?_ GE398.out | refine below_set ?_ GE418.out | refine below_set ?_ GE424.out) | exact HB.out))))
              have n3_ := Aside0.mk (blk_below (g := gb397) (o := .cells #[.int .i64 a0_0, .slice A0_1 l0_1.length c0_1, .int .i64 a0_2] 26 (0, 0)) (by (with_reducible repeat (first | refine blk_drewN ?_ _ | refine blk_drew ?_ | refine blk_alloc ?_ _)); exact BK397.out) hb)
              have n4_ := Aside0.mk (blk_below (g := gb398) (o := .cells #[.int .i64 a1_0, .slice A1_1 l1_1.length c1_1, .int .i64 a1_2] 26 (0, 0)) (by (with_reducible repeat (first | refine blk_drewN ?_ _ | refine blk_drew ?_ | refine blk_alloc ?_ _)); exact BK398.out) hb)
              have n5_ := Aside0.mk (blk_below (g := gb418) (o := .cells #[.int .i64 t413, .slice Ao45 t414.length co45, .int .i64 t417] 31 (0, 0)) (by (with_reducible repeat (first | refine blk_drewN ?_ _ | refine blk_drew ?_ | refine blk_alloc ?_ _)); exact BK418.out) hb)
              have n6_ := Aside0.mk (blk_below (g := gb424) (o := .cells #[.int .i64 t419, .slice Ao53 t420.length co53, .int .i64 t423] 31 (0, 0)) (by (with_reducible repeat (first | refine blk_drewN ?_ _ | refine blk_drew ?_ | refine blk_alloc ?_ _)); exact BK424.out) hb)
              have n7_ := Aside0.mk (below_step (by repeat (first | (with_reducible first | exact HB.out | apply below_alloc | apply pw_below_drewN | apply below_drew1 | refine below_set ?_ GE397.out | refine below_set ?_ GE398.out | refine below_set ?_ GE418.out | refine below_set ?_ GE424.out) | exact HB.out)) hb)
              clear HO_419001
              clear HO_425001
              clear BK397
              clear BK398
              clear BK418
              clear BK424
              clear HB
              have HO_419001 := n0_
              have HO_425001 := n1_
              have HO430 := n2_
              have BK397 := n3_
              have BK398 := n4_
              have BK418 := n5_
              have BK424 := n6_
              have HB := n7_
              clear n0_ n1_ n2_ n3_ n4_ n5_ n6_ n7_
              (try clear hb)
              (try clear hb2)
              (try clear hk)
              (try clear hi)
              (try clear ho0)
              obtain ⟨Ao82, co82, eo82⟩ := Kd.R_slice HO430.out
              (first | subst eo82 | (injection eo82 with f1_ f2_ f3_; have f4_ := f1_.symm; have f5_ := f3_.symm; clear f1_ f2_ f3_; subst f4_; subst f5_))
              refine hK.out _ _ ⟨(blk_cell BK418.out 0).trans rfl, (blk_cell BK418.out 1).trans rfl, (blk_cell BK418.out 2).trans rfl, (blk_cell BK397.out 0).trans rfl, (blk_cell BK397.out 1).trans rfl, (blk_cell BK397.out 2).trans rfl⟩ (fun hHeld => ?_)
              clear hK K
              refine norm_ (a' := ?_) ?_ ?_
              rotate_left
              · show Act.put _ (some 50) _ = _
                simp only [Act.put, List.setIfInBounds_toArray, List.set_cons_zero, List.set_cons_succ, i64_w, i32_w]
                rfl
              refine one_ (i := 3) (N := some 51) #[true, true, true, true, false] rfl rfl (by kernel_rfl) (by decide) (fun K hK => ?_)
              refine goes_ Try.func26 (by kernel_rfl) rfl #[.agg #[.int .i64 t413, .slice Ao45 t414.length co45, .int .i64 t417], .agg #[.int .i64 t427, .slice Ao82 t428.length co82, .int .i64 t431]] (by rfl) rfl rfl (by (try simp only [List.map_toArray, List.map_cons, List.map_nil]); first | done | rfl | (simp only [List.length_drop, List.length_take]; rfl)) ?_
              with_reducible refine (laws_eqDyadic.calls kj24 t413 _ _ t414 t417 t427 _ _ t428 t431 false _ ?side1 ?side2 ?side3 ?side4 A59.out).mono ?_
              (case side1 => repeat (first | exact (Kd.R_reads' HO_419001.out).2.2 | (with_reducible refine Kd.C_alloc ?_ _) | (with_reducible refine Kd.C_drewN ?_ _) | (with_reducible refine Kd.C_drew ?_)))
              (case side2 => exact (Kd.R_reads' HO_419001.out).2.1)
              (case side3 => repeat (first | exact (Kd.R_reads' HO430.out).2.2 | (with_reducible refine Kd.C_alloc ?_ _) | (with_reducible refine Kd.C_drewN ?_ _) | (with_reducible refine Kd.C_drew ?_)))
              (case side4 => exact (Kd.R_reads' HO430.out).2.1)
              rintro e w83 ⟨rfl, hb⟩
              refine ⟨_, rfl, ?_⟩
              have n0_ := Aside0.mk (Kd.R_below (by (with_reducible repeat (first | apply Kd.R_alloc | apply Kd.R_drewN | apply Kd.R_drew)); exact HO_419001.out) hb)
              have n1_ := Aside0.mk (Kd.R_below (by (with_reducible repeat (first | apply Kd.R_alloc | apply Kd.R_drewN | apply Kd.R_drew)); exact HO_425001.out) hb)
              have n2_ := Aside0.mk (Kd.R_below (by (with_reducible repeat (first | apply Kd.R_alloc | apply Kd.R_drewN | apply Kd.R_drew)); exact HO430.out) hb)
              have n3_ := Aside0.mk (blk_below (g := gb397) (o := .cells #[.int .i64 a0_0, .slice A0_1 l0_1.length c0_1, .int .i64 a0_2] 26 (0, 0)) (by (with_reducible repeat (first | refine blk_drewN ?_ _ | refine blk_drew ?_ | refine blk_alloc ?_ _)); exact BK397.out) hb)
              have n4_ := Aside0.mk (blk_below (g := gb398) (o := .cells #[.int .i64 a1_0, .slice A1_1 l1_1.length c1_1, .int .i64 a1_2] 26 (0, 0)) (by (with_reducible repeat (first | refine blk_drewN ?_ _ | refine blk_drew ?_ | refine blk_alloc ?_ _)); exact BK398.out) hb)
              have n5_ := Aside0.mk (blk_below (g := gb418) (o := .cells #[.int .i64 t413, .slice Ao45 t414.length co45, .int .i64 t417] 31 (0, 0)) (by (with_reducible repeat (first | refine blk_drewN ?_ _ | refine blk_drew ?_ | refine blk_alloc ?_ _)); exact BK418.out) hb)
              have n6_ := Aside0.mk (blk_below (g := gb424) (o := .cells #[.int .i64 t419, .slice Ao53 t420.length co53, .int .i64 t423] 31 (0, 0)) (by (with_reducible repeat (first | refine blk_drewN ?_ _ | refine blk_drew ?_ | refine blk_alloc ?_ _)); exact BK424.out) hb)
              have n7_ := Aside0.mk (below_step (by repeat (first | (with_reducible first | exact HB.out | apply below_alloc | apply pw_below_drewN | apply below_drew1 | refine below_set ?_ GE397.out | refine below_set ?_ GE398.out | refine below_set ?_ GE418.out | refine below_set ?_ GE424.out) | exact HB.out)) hb)
              clear HO_419001
              clear HO_425001
              clear HO430
              clear BK397
              clear BK398
              clear BK418
              clear BK424
              clear HB
              have HO_419001 := n0_
              have HO_425001 := n1_
              have HO430 := n2_
              have BK397 := n3_
              have BK398 := n4_
              have BK418 := n5_
              have BK424 := n6_
              have HB := n7_
              clear n0_ n1_ n2_ n3_ n4_ n5_ n6_ n7_
              (try clear hb)
              (try clear hb2)
              (try clear hk)
              (try clear hi)
              refine hK.out _ _ ⟨(blk_cell BK418.out 0).trans rfl, (blk_cell BK418.out 1).trans rfl, (blk_cell BK418.out 2).trans rfl, (blk_cell BK397.out 0).trans rfl, (blk_cell BK397.out 1).trans rfl, (blk_cell BK397.out 2).trans rfl⟩ (fun hHeld => ?_)
              clear hK K
              refine norm_ (a' := ?_) ?_ ?_
              rotate_left
              · show Act.put _ (some 51) _ = _
                simp only [Act.put, List.setIfInBounds_toArray, List.set_cons_zero, List.set_cons_succ, i64_w, i32_w]
                rfl
              refine pure_ (i := 4) (N := some 52) (v := ?_) (a' := ?_) #[true, true, true, true, true] rfl rfl (by kernel_rfl) (fun _ _ _ h => h) (Or.inl ⟨by rfl, ?_⟩) ?_ ?_
              rotate_left
              · intro w'
                go_simp
                with_reducible rfl
              rotate_left
              · simp only [Act.put, List.setIfInBounds_toArray, List.set_cons_zero, List.set_cons_succ, i64_w, i32_w]
                rfl
              refine done_ (by kernel_rfl) ?_
              try go_wp2
              go_ret
              exact ⟨by first | rfl | (simp [errW_none, errW_some] <;> rfl) | (simp [*, errW_none, errW_some] <;> rfl), by repeat (first | (with_reducible first | exact HB.out | apply below_alloc | apply pw_below_drewN | apply below_drew1 | refine below_set ?_ GE397.out | refine below_set ?_ GE398.out | refine below_set ?_ GE418.out | refine below_set ?_ GE424.out) | exact HB.out)⟩
end Go.Proofs.Ytdboepiobaehkaa.PW
end
section
namespace Go.Proofs.Ytdboepiobaehkaa.Qc
open Go.RowKit Go.Proofs.YtdboepiobaehkaaW.PrintWords Go.Proofs.Ytdboepiobaehkaa.PW Go.Proofs.Ytdboepiobaehkaa.Pb Go.Proofs.Ytdboepiobaehkaa.Pc Go.Proofs.Ytdboepiobaehkaa.Pm Go.Proofs.Ytdboepiobaehkaa.Pw Go.Proofs.Ytdboepiobaehkaa.Px Go.Proofs.Ytdboepiobaehkaa.Pt Go.Proofs.Ytdboepiobaehkaa.Pz Go.Proofs.Ytdboepiobaehkaa.Pzs Go.Proofs.Ytdboepiobaehkaa.Ss Go.Proofs.Ytdboepiobaehkaa.St Go.Proofs.Ytdboepiobaehkaa.Sm Go.Proofs.Ytdboepiobaehkaa.Qa Go.Proofs.Ytdboepiobaehkaa.Qb Go.Proofs.Ytdboepiobaehkaa.Mu Go.Proofs.Ytdboepiobaehkaa.Nc Dg
set_option linter.unusedVariables false
set_option linter.unusedSimpArgs false
theorem bl_two (z : Int) (k : Nat) : bl (z * 2 ^ k).natAbs ≤ bl z.natAbs + k := by
  rw [Int.natAbs_mul, show ((2 : Int) ^ k).natAbs = 2 ^ k by rw [Int.natAbs_pow]; rfl]
  exact bl_shift_le _ _
theorem mn_min (a b : Int) : mn a b = min a b := by
  unfold mn
  split <;> omega
theorem saddD (x y e f : Int) (hx : bl x.natAbs ≤ 100000000) (hy : bl y.natAbs ≤ 100000000) (h1 : -1000000 ≤ e) (h2 : e ≤ 1000000) (h3 : -1000000 ≤ f) (h4 : f ≤ 1000000) :
    Ev (fun k => spec_l03Add.f k (sgn x) (L x.natAbs) e (sgn y) (L y.natAbs) f) (dy (addz x e y f) (adde x e y f)) := by
  unfold spec_l03Add.f addz adde
  by_cases hx0 : x = 0
  · rw [if_pos hx0, if_pos hx0]
    exact ifp (sgn_zero.2 hx0) (Ev.bind (f := fun k t => _) (smakeD y f (by omega) (by omega) (by omega)) (ev_of fun _ => rfl))
  · rw [if_neg hx0, if_neg hx0]
    refine ifn (fun h => hx0 (sgn_zero.1 h)) ?_
    by_cases hy0 : y = 0
    · rw [if_pos hy0, if_pos hy0]
      exact ifp (sgn_zero.2 hy0) (Ev.bind (f := fun k t => _) (smakeD x e (by omega) (by omega) (by omega)) (ev_of fun _ => rfl))
    · rw [if_neg hy0, if_neg hy0]
      refine ifn (fun h => hy0 (sgn_zero.1 h)) ?_
      rw [mn_min, wrapZ (e - min e f) (by omega) (by omega), wrapZ (f - min e f) (by omega) (by omega)]
      have ea : e - min e f = ((e - min e f).toNat : Nat) := by omega
      have eb : f - min e f = ((f - min e f).toNat : Nat) := by omega
      have sa := sleft x (e - min e f).toNat (by omega) (by omega)
      have sb := sleft y (f - min e f).toNat (by omega) (by omega)
      rw [← ea] at sa
      rw [← eb] at sb
      have ba := bl_two x (e - min e f).toNat
      have bb := bl_two y (f - min e f).toNat
      have bc := bl_add_natAbs (x * 2 ^ (e - min e f).toNat) (y * 2 ^ (f - min e f).toNat)
      refine Ev.bind (f := fun k t => _) sa (Ev.bind (f := fun k t => _) sb (Ev.bind (f := fun k t => _) (sadd _ _ (by omega) (by omega)) ?_))
      exact Ev.bind (f := fun k t => _) (smakeD _ (min e f) (by omega) (by omega) (by omega)) (ev_of fun _ => rfl)
theorem ssubD (x y e f : Int) (hx : bl x.natAbs ≤ 100000000) (hy : bl y.natAbs ≤ 100000000) (h1 : -1000000 ≤ e) (h2 : e ≤ 1000000) (h3 : -1000000 ≤ f) (h4 : f ≤ 1000000) :
    Ev (fun k => spec_l03Sub.f k (sgn x) (L x.natAbs) e (sgn y) (L y.natAbs) f) (dy (addz x e (-y) f) (adde x e (-y) f)) := by
  have hn : Ev (fun k => spec_l03Neg.f k (sgn y) (L y.natAbs) f) (sgn (-y), L (-y).natAbs, f) := by
    unfold spec_l03Neg.f
    rw [Int.natAbs_neg]
    exact Ev.bind (f := fun k t => _) (sneg y (by omega)) (ev_of fun _ => rfl)
  unfold spec_l03Sub.f
  exact Ev.bind (f := fun k t => _) hn (Ev.bind (f := fun k t => _) (saddD x (-y) e f hx (by rw [Int.natAbs_neg]; exact hy) h1 h2 h3 h4) (ev_of fun _ => rfl))
end Go.Proofs.Ytdboepiobaehkaa.Qc
end
