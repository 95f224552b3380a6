/- Lemmas of the claim: Mf, Mg, Mh, Mi, Mj, Mk, Ml, Mn, Mo, Mq, Mr, Mu, Na, Nd, Nf, Nc, Ng, Nh, XkSubtractDyadics, KSubtractDyadics, Qc. -/
import Derived.RegionTactic
import Derived.ChangeAlike
import Derived.Laws.CopyOwn
import Derived.Deep.OwnRows
import Derived.Test.YtdboepiobaehkaaQsudm
import Derived.Test.YtdboepiobaehkaaQsudi
import Derived.Deep.RegionLaw
import Derived.Test.YtdboepiobaehkaaQsudg
import Derived.Test.YtdboepiobaehkaaQsudh
import Derived.Test.YtdboepiobaehkaaQsude
section
set_option linter.unusedVariables false
set_option linter.unusedSimpArgs false
namespace Go.Proofs.Ytdboepiobaehkaa.Mf
open Go.RowKit Go.Proofs.YtdboepiobaehkaaW.PrintWords Go.Proofs.Ytdboepiobaehkaa.PW Go.Proofs.Ytdboepiobaehkaa.Pc Go.Proofs.Ytdboepiobaehkaa.Ma Go.Proofs.Ytdboepiobaehkaa.Mb Go.Proofs.Ytdboepiobaehkaa.Mc Go.Proofs.Ytdboepiobaehkaa.Md Go.Proofs.Ytdboepiobaehkaa.Me Dg
theorem D_or (a b i : Nat) : (D (a ||| b)).getD i 0 = (((a / 4294967296 ^ i % 4294967296) ||| (b / 4294967296 ^ i % 4294967296) : Nat) : Int) := by
  rw [D_getD]
  congr 1
  rw [show (4294967296 : Nat) = 2 ^ 32 from rfl, ← Nat.pow_mul]
  have h1 : (a ||| b) / 2 ^ (32 * i) = a / 2 ^ (32 * i) ||| b / 2 ^ (32 * i) := by
    rw [← Nat.shiftRight_eq_div_pow, ← Nat.shiftRight_eq_div_pow, ← Nat.shiftRight_eq_div_pow, Nat.shiftRight_or_distrib]
  rw [h1, Nat.or_mod_two_pow]
theorem or_list {a b : Nat} {ys : List Int} (hl : ys.length = max (D a).length (D b).length) (h : ∀ j, j < ys.length → ys.getD j 0 = bits .or .u32 ((D a).getD j 0) ((D b).getD j 0)) : Dig 4294967296 ys ∧ val 4294967296 ys = ((a ||| b : Nat) : Int) := by
  have hb : ∀ j, bits .or .u32 ((D a).getD j 0) ((D b).getD j 0) = (((a ||| b) / 4294967296 ^ j % 4294967296 : Nat) : Int) := by
    intro j
    rw [← D_getD, D_or, D_getD, D_getD]
    exact (bits_nat .u32 32 (by decide) Po.wraps_u32 _ _ (Nat.mod_lt _ (by decide)) (Nat.mod_lt _ (by decide))).2
  have h2 : ∀ j, j < ys.length → ys.getD j 0 = (((a ||| b) / 4294967296 ^ j % 4294967296 : Nat) : Int) := fun j hj => by rw [h j hj, hb]
  constructor
  · exact dig_of_getD fun j hj => by rw [h2 j hj]; have := Nat.mod_lt ((a ||| b) / 4294967296 ^ j) (show 0 < 4294967296 by decide); omega
  · rw [val_digits (by decide) ys (a ||| b) h2]
    congr 1
    apply Nat.mod_eq_of_lt
    have e : (4294967296 : Nat) = 2 ^ 32 := rfl
    rw [e, ← Nat.pow_mul]
    apply Nat.or_lt_two_pow
    · have := D_bl a
      have h3 := lt_bl a
      have := Nat.pow_le_pow_right (n := 2) (by decide) (show bl a ≤ 32 * ys.length by omega)
      omega
    · have := D_bl b
      have h3 := lt_bl b
      have := Nat.pow_le_pow_right (n := 2) (by decide) (show bl b ≤ 32 * ys.length by omega)
      omega
theorem made_list (n : Nat) : (madeCells #[Value.int .u32 0] n).toList = (List.replicate n (0 : Int)).map (Value.int .u32) := by
  apply List.ext_getElem
  · simp [madeCells]
  · intro i h1 h2
    simp [madeCells, Nat.mod_one]
theorem splice_list {a : List Int} {n : Nat} (h : a.length ≤ n) : splice ((List.replicate n (0 : Int)).map (Value.int .u32)) 0 (a.map (Value.int .u32)) = (a ++ List.replicate (n - a.length) 0).map (Value.int .u32) := by
  unfold splice
  simp
theorem append_zeros_getD (a : List Int) (k j : Nat) : (a ++ List.replicate k (0 : Int)).getD j 0 = a.getD j 0 := by
  rcases Nat.lt_or_ge j a.length with h | h
  · simp [List.getD, List.getElem?_append_left h]
  · rw [getD_ge h]
    simp [List.getD, List.getElem?_append_right h, List.getElem?_replicate]
    split <;> rfl
def OrTo (a b : Nat) (m i : Nat) (ys : List Int) : Prop := ys.length = m ∧ (∀ j, j < i → ys.getD j 0 = bits .or .u32 ((D a).getD j 0) ((D b).getD j 0)) ∧ (∀ j, i ≤ j → ys.getD j 0 = (D a).getD j 0)
theorem OrTo.step {a b m i : Nat} {ys : List Int} (h : OrTo a b m i ys) (hi : i < m) : OrTo a b m (i + 1) (ys.set i (bits .or .u32 ((D a).getD i 0) ((D b).getD i 0))) := by
  obtain ⟨h1, h2, h3⟩ := h
  refine ⟨by simpa using h1, fun j hj => ?_, fun j hj => ?_⟩
  · by_cases e : j = i
    · subst e; rw [Dg.getD_set_eq (by omega)]
    · rw [Dg.getD_set_ne (by omega)]; exact h2 j (by omega)
  · rw [Dg.getD_set_ne (by omega)]; exact h3 j (by omega)
theorem or_zero (a j : Nat) : bits .or .u32 ((D a).getD j 0) 0 = (D a).getD j 0 := by
  have := (bits_nat .u32 32 (by decide) Po.wraps_u32 (a / 4294967296 ^ j % 4294967296) 0 (Nat.mod_lt _ (by decide)) (by decide)).2
  rw [D_getD]
  simpa using this
theorem OrTo.done {a b m : Nat} {ys : List Int} (h : OrTo a b m (D b).length ys) (hm : m = max (D a).length (D b).length) : Dig 4294967296 ys ∧ val 4294967296 ys = ((a ||| b : Nat) : Int) := by
  obtain ⟨h1, h2, h3⟩ := h
  refine or_list (by omega) fun j hj => ?_
  by_cases hjb : j < (D b).length
  · exact h2 j hjb
  · rw [h3 j (by omega), getD_ge (l := D b) (by omega), or_zero]
theorem nums_set {ys : List Int} {i : Nat} {x : Int} : (ys.map (Value.int .u32)).toArray.setIfInBounds i (.int .u32 x) = ((ys.set i x).map (Value.int .u32)).toArray := by
  simp [List.map_set]
theorem sizeU : (Try.prog.info? 120).map (·.size) = some 1 := by kernel_rfl
set_option maxHeartbeats 1600000 in
set_option maxRecDepth 100000 in
theorem orr {w : World} {p q s : Nat} {x y : Int} (hp : Blk w p) (hx : Z w q x) (hy : Z w s y) (h1 : bl x.natAbs ≤ 536870912) (h2 : bl y.natAbs ≤ 536870912) :
    Calls Try.prog 143 #[.pointer (some ⟨p, 0, none⟩), .pointer (some ⟨q, 0, none⟩), .pointer (some ⟨s, 0, none⟩)] w (Puts w p ((x.natAbs ||| y.natAbs : Nat) : Int)) := by
  obtain ⟨A, c, k0, k1, hm, hq⟩ := Z.open hx
  obtain ⟨B, d, j0, j1, hn, hs⟩ := Z.open hy
  have hl1 := D_len x.natAbs
  have hl2 := D_len y.natAbs
  generalize hla : (D x.natAbs).length = la at *
  generalize hlb : (D y.natAbs).length = lb at *
  have HLA := Lib.hid hla
  have HLB := Lib.hid hlb
  have HM := Lib.hid hm
  have HNN := Lib.hid hn
  have HPB := Lib.hid hp
  have hla2 : la ≤ 536870912 := by omega
  have hlb2 : lb ≤ 536870912 := by omega
  clear hla hlb
  clear hp hx hy hm hn h1 h2 hl1 hl2
  have hfin : ∀ (m : Nat) (ys : List Int) (wr : World), m = max la lb → OrTo x.natAbs y.natAbs m lb ys → wr.heap[w.heap.size]? = some (.cells (ys.map (Value.int .u32)).toArray 120 (0, 0)) → Below w.heap.size w wr →
      Calls Try.prog 182 #[.pointer (some ⟨p, 0, none⟩), .bool false, .slice (some ⟨w.heap.size, 0, none⟩) m m] wr (Puts w p ((x.natAbs ||| y.natAbs : Nat) : Int)) := by
    intro m ys wr hm hor hblk hb
    have hl := hor.1
    rw [← HLB.out] at hor
    obtain ⟨hd, hv⟩ := hor.done (by rw [HLA.out, HLB.out]; exact hm)
    have hr := Mg.row (xs := ys) hblk (by simp) (by omega)
    have := put (neg := false) (HPB.out.below hb) hr hd (by omega)
    rw [hl] at this
    refine this.mono fun e w' h => ?_
    rw [hv] at h
    exact Puts.below hb h
  have HF := Lib.hid hfin
  clear hfin
  by_cases hlt : la < lb
  · have hmk := run_make_row' (P := Try.prog) 109 120 (.int .u32 0) 4 Try.underlying109 infoU rfl .i64 .i64 lb (by omega) (by omega)
    have hlb : lb = max la lb := by omega
    have Hlb := Lib.hid hlb
    clear hlb
    have hlm : lb ≤ lb := Nat.le_refl _
    have HBEL := Lib.hid (show Below w.heap.size w ((w.alloc (.cells (madeCells #[Value.int .u32 0] lb) 120)).drew) from (waq w _).drew)
    have HBLK := Lib.hid (show ((w.alloc (.cells (madeCells #[Value.int .u32 0] lb) 120)).drew).heap[w.heap.size]? = some (.cells ((List.replicate lb (0 : Int)).map (Value.int .u32)).toArray 120 (0, 0)) by
      rw [show ((List.replicate lb (0 : Int)).map (Value.int .u32)).toArray = madeCells #[Value.int .u32 0] lb by rw [← made_list]]
      exact heap_alloc_new w _)
    have HLEN := Lib.hid (show ((D x.natAbs).map (Value.int .u32)).length = Nat.min la lb by rw [List.length_map, HLA.out]; exact (Nat.min_eq_left (by omega)).symm)
    have HFIT := Lib.hid (show 0 + ((D x.natAbs).map (Value.int .u32)).length ≤ ((List.replicate lb (0 : Int)).map (Value.int .u32)).length by rw [List.length_map, List.length_map, List.length_replicate, HLA.out]; omega)
    have HONE := Lib.hid (show ∀ v ∈ (D x.natAbs).map (Value.int .u32), v.oneCell' = true by intro v hv; obtain ⟨u, _, rfl⟩ := List.mem_map.1 hv; rfl)
    have HPOS := Lib.hid (show 0 < ((D x.natAbs).map (Value.int .u32)).length → ∃ ad, A = some ad ∧ ∀ j v, ((D x.natAbs).map (Value.int .u32))[j]? = some v → ((w.alloc (.cells (madeCells #[Value.int .u32 0] lb) 120)).drew).cell? (ad.add j) = some v by
      intro hpos
      rw [List.length_map] at hpos
      have hC := HM.out.1
      obtain ⟨ad, had, _⟩ := Kd.at_int hC 0 (by omega) (by omega)
      subst had
      refine ⟨ad, rfl, fun j v hj => ?_⟩
      rw [List.getElem?_map] at hj
      have hjl : j < (D x.natAbs).length := by
        rcases Nat.lt_or_ge j (D x.natAbs).length with h | h
        · exact h
        · rw [List.getElem?_eq_none h] at hj; cases hj
      obtain ⟨ad', had', hc'⟩ := Kd.at_int hC (j : Int) (by omega) (by omega)
      cases had'
      rw [Int.toNat_natCast, rdN] at hc'
      rw [List.getElem?_eq_getElem hjl, Option.map_some] at hj
      cases hj
      rw [getD_lt hjl] at hc'
      exact (HBEL.out.cell (World.block_lt_of_cell? w _ hc')).trans hc')
    go_enter Try.func143, Try.ntmps143
    go_wp2
    go_region
    clear hmk
    go_wp2_with ((with_reducible refine gate_builtin (b := .copy) (xs := #[.tmp 22, .tmp 26]) rfl ?_); refine wpList_copy_splice rfl (.tmp 22) (.tmp 26) 109 109 rfl 120 Try.underlying109 sizeU (some ⟨w.heap.size, 0, none⟩) A lb lb la c rfl rfl w.heap.size 0 ((List.replicate lb (0 : Int)).map (Value.int .u32)) 120 HBLK.out ((D x.natAbs).map (Value.int .u32)) HLEN.out (fun h_ => ⟨rfl, HPOS.out h_⟩) HFIT.out HONE.out w.heap.size w HBEL.out (Nat.le_refl _) ?_; clear HBLK HLEN HPOS HFIT HONE HBEL; intro w3 hblk hbel; have HB3 := Lib.hid hblk.out; have HBL := Lib.hid hbel; have j1' := (hbel.cell (p := ⟨s, 1, none⟩) hs).trans j1; clear hblk hbel)
    go_loopw [33] (fun i wr => ∃ (k : Nat) (ys : List Int), i = .int .i64 k ∧ k ≤ lb ∧ Hid (OrTo x.natAbs y.natAbs lb k ys) ∧ Hid (wr.heap[w.heap.size]? = some (.cells (ys.map (Value.int .u32)).toArray 120 (0, 0))) ∧ Hid (Below w.heap.size w wr)) (fun i _ => lb - (intOf i).toNat)
    case atStart =>
      have HMA := HM.out
      refine ⟨0, D x.natAbs ++ List.replicate (lb - (D x.natAbs).length) 0, rfl, by omega, Lib.hid ⟨by rw [List.length_append, List.length_replicate, HLA.out]; omega, fun j hj => by omega, fun j _ => append_zeros_getD _ _ _⟩, Lib.hid ?_, HBL⟩
      have := HB3.out
      rw [splice_list (by rw [HLA.out]; omega)] at this
      exact this
    case round =>
      obtain ⟨k, ys, rfl, hk, HO, HW, HBR⟩ := hrel
      by_cases hkb : k < lb
      · obtain ⟨ad, hBad, hcell⟩ := Kd.at_int HNN.out.1 (k : Int) (by omega) (by rw [HLB.out]; omega)
        subst hBad
        rw [Int.toNat_natCast, rdN] at hcell
        have hcell' := (HBR.out.cell (World.block_lt_of_cell? w _ hcell)).trans hcell
        clear hcell
        have hyl := HO.out.1
        have hrow := kcq HW.out k
        have hfro := kfq HW.out k
        have hyk : (ys.map (Value.int .u32)).toArray[k]? = some (.int .u32 ((D x.natAbs).getD k 0)) := by
          rw [List.getElem?_toArray, List.getElem?_map, List.getElem?_eq_getElem (by omega), ← HO.out.2.2 k (Nat.le_refl _), getD_lt (by omega)]; rfl
        rw [hyk] at hrow
        have HS := Lib.hid (HO.out.step (by omega))
        have hnext : ((wr.setCell ⟨w.heap.size, k, none⟩ (.int .u32 (bits .or .u32 ((D x.natAbs).getD k 0) ((D y.natAbs).getD k 0)))).heap[w.heap.size]?) = some (.cells ((ys.set k (bits .or .u32 ((D x.natAbs).getD k 0) ((D y.natAbs).getD k 0))).map (Value.int .u32)).toArray 120 (0, 0)) := by
          rw [blk_set HW.out k, nums_set]
        have HNX := Lib.hid hnext
        have HBN := Lib.hid (HBR.out.setCell (p := ⟨w.heap.size, k, none⟩) (Nat.le_refl _) (.int .u32 (bits .or .u32 ((D x.natAbs).getD k 0) ((D y.natAbs).getD k 0))))
        clear hnext hyk hyl HO HW HBR
        generalize (D x.natAbs).getD k 0 = u at *
        generalize (D y.natAbs).getD k 0 = v at *
        go_wp2
        go_roundw
        case rel => exact ⟨k + 1, _, by go_num, by omega, HS, HNX, HBN⟩
        case measure => simp [intOf]; omega
      · obtain rfl : lb = k := by omega
        have HC := Lib.hid (HF.out lb ys wr Hlb.out HO.out HW.out HBR.out)
        clear HO HW HBR
        go_wp2_with (go_at_call 182; refine HC.out.mono ?_; rintro e w2 ⟨rfl, hz2, hg2⟩; have HE := Lib.hid (show Puts w p ((x.natAbs ||| y.natAbs : Nat) : Int) _ w2 from ⟨rfl, hz2, hg2⟩); clear hz2 hg2)
        go_ret
        exact HE.out
  · have hmk := run_make_row' (P := Try.prog) 109 120 (.int .u32 0) 4 Try.underlying109 infoU rfl .i64 .i64 la (by omega) (by omega)
    have hla : la = max la lb := by omega
    have Hla := Lib.hid hla
    clear hla
    have hlm : lb ≤ la := by omega
    have HBEL := Lib.hid (show Below w.heap.size w ((w.alloc (.cells (madeCells #[Value.int .u32 0] la) 120)).drew) from (waq w _).drew)
    have HBLK := Lib.hid (show ((w.alloc (.cells (madeCells #[Value.int .u32 0] la) 120)).drew).heap[w.heap.size]? = some (.cells ((List.replicate la (0 : Int)).map (Value.int .u32)).toArray 120 (0, 0)) by
      rw [show ((List.replicate la (0 : Int)).map (Value.int .u32)).toArray = madeCells #[Value.int .u32 0] la by rw [← made_list]]
      exact heap_alloc_new w _)
    have HLEN := Lib.hid (show ((D x.natAbs).map (Value.int .u32)).length = Nat.min la la by rw [List.length_map, HLA.out]; exact (Nat.min_eq_left (by omega)).symm)
    have HFIT := Lib.hid (show 0 + ((D x.natAbs).map (Value.int .u32)).length ≤ ((List.replicate la (0 : Int)).map (Value.int .u32)).length by rw [List.length_map, List.length_map, List.length_replicate, HLA.out]; omega)
    have HONE := Lib.hid (show ∀ v ∈ (D x.natAbs).map (Value.int .u32), v.oneCell' = true by intro v hv; obtain ⟨u, _, rfl⟩ := List.mem_map.1 hv; rfl)
    have HPOS := Lib.hid (show 0 < ((D x.natAbs).map (Value.int .u32)).length → ∃ ad, A = some ad ∧ ∀ j v, ((D x.natAbs).map (Value.int .u32))[j]? = some v → ((w.alloc (.cells (madeCells #[Value.int .u32 0] la) 120)).drew).cell? (ad.add j) = some v by
      intro hpos
      rw [List.length_map] at hpos
      have hC := HM.out.1
      obtain ⟨ad, had, _⟩ := Kd.at_int hC 0 (by omega) (by omega)
      subst had
      refine ⟨ad, rfl, fun j v hj => ?_⟩
      rw [List.getElem?_map] at hj
      have hjl : j < (D x.natAbs).length := by
        rcases Nat.lt_or_ge j (D x.natAbs).length with h | h
        · exact h
        · rw [List.getElem?_eq_none h] at hj; cases hj
      obtain ⟨ad', had', hc'⟩ := Kd.at_int hC (j : Int) (by omega) (by omega)
      cases had'
      rw [Int.toNat_natCast, rdN] at hc'
      rw [List.getElem?_eq_getElem hjl, Option.map_some] at hj
      cases hj
      rw [getD_lt hjl] at hc'
      exact (HBEL.out.cell (World.block_lt_of_cell? w _ hc')).trans hc')
    go_enter Try.func143, Try.ntmps143
    go_wp2
    go_region
    clear hmk
    go_wp2_with ((with_reducible refine gate_builtin (b := .copy) (xs := #[.tmp 22, .tmp 26]) rfl ?_); refine wpList_copy_splice rfl (.tmp 22) (.tmp 26) 109 109 rfl 120 Try.underlying109 sizeU (some ⟨w.heap.size, 0, none⟩) A la la la c rfl rfl w.heap.size 0 ((List.replicate la (0 : Int)).map (Value.int .u32)) 120 HBLK.out ((D x.natAbs).map (Value.int .u32)) HLEN.out (fun h_ => ⟨rfl, HPOS.out h_⟩) HFIT.out HONE.out w.heap.size w HBEL.out (Nat.le_refl _) ?_; clear HBLK HLEN HPOS HFIT HONE HBEL; intro w3 hblk hbel; have HB3 := Lib.hid hblk.out; have HBL := Lib.hid hbel; have j1' := (hbel.cell (p := ⟨s, 1, none⟩) hs).trans j1; clear hblk hbel)
    go_loopw [33] (fun i wr => ∃ (k : Nat) (ys : List Int), i = .int .i64 k ∧ k ≤ lb ∧ Hid (OrTo x.natAbs y.natAbs la k ys) ∧ Hid (wr.heap[w.heap.size]? = some (.cells (ys.map (Value.int .u32)).toArray 120 (0, 0))) ∧ Hid (Below w.heap.size w wr)) (fun i _ => lb - (intOf i).toNat)
    case atStart =>
      have HMA := HM.out
      refine ⟨0, D x.natAbs ++ List.replicate (la - (D x.natAbs).length) 0, rfl, by omega, Lib.hid ⟨by rw [List.length_append, List.length_replicate, HLA.out]; omega, fun j hj => by omega, fun j _ => append_zeros_getD _ _ _⟩, Lib.hid ?_, HBL⟩
      have := HB3.out
      rw [splice_list (by rw [HLA.out]; omega)] at this
      exact this
    case round =>
      obtain ⟨k, ys, rfl, hk, HO, HW, HBR⟩ := hrel
      by_cases hkb : k < lb
      · obtain ⟨ad, hBad, hcell⟩ := Kd.at_int HNN.out.1 (k : Int) (by omega) (by rw [HLB.out]; omega)
        subst hBad
        rw [Int.toNat_natCast, rdN] at hcell
        have hcell' := (HBR.out.cell (World.block_lt_of_cell? w _ hcell)).trans hcell
        clear hcell
        have hyl := HO.out.1
        have hrow := kcq HW.out k
        have hfro := kfq HW.out k
        have hyk : (ys.map (Value.int .u32)).toArray[k]? = some (.int .u32 ((D x.natAbs).getD k 0)) := by
          rw [List.getElem?_toArray, List.getElem?_map, List.getElem?_eq_getElem (by omega), ← HO.out.2.2 k (Nat.le_refl _), getD_lt (by omega)]; rfl
        rw [hyk] at hrow
        have HS := Lib.hid (HO.out.step (by omega))
        have hnext : ((wr.setCell ⟨w.heap.size, k, none⟩ (.int .u32 (bits .or .u32 ((D x.natAbs).getD k 0) ((D y.natAbs).getD k 0)))).heap[w.heap.size]?) = some (.cells ((ys.set k (bits .or .u32 ((D x.natAbs).getD k 0) ((D y.natAbs).getD k 0))).map (Value.int .u32)).toArray 120 (0, 0)) := by
          rw [blk_set HW.out k, nums_set]
        have HNX := Lib.hid hnext
        have HBN := Lib.hid (HBR.out.setCell (p := ⟨w.heap.size, k, none⟩) (Nat.le_refl _) (.int .u32 (bits .or .u32 ((D x.natAbs).getD k 0) ((D y.natAbs).getD k 0))))
        clear hnext hyk hyl HO HW HBR
        generalize (D x.natAbs).getD k 0 = u at *
        generalize (D y.natAbs).getD k 0 = v at *
        go_wp2
        go_roundw
        case rel => exact ⟨k + 1, _, by go_num, by omega, HS, HNX, HBN⟩
        case measure => simp [intOf]; omega
      · obtain rfl : lb = k := by omega
        have HC := Lib.hid (HF.out la ys wr Hla.out HO.out HW.out HBR.out)
        clear HO HW HBR
        go_wp2_with (go_at_call 182; refine HC.out.mono ?_; rintro e w2 ⟨rfl, hz2, hg2⟩; have HE := Lib.hid (show Puts w p ((x.natAbs ||| y.natAbs : Nat) : Int) _ w2 from ⟨rfl, hz2, hg2⟩); clear hz2 hg2)
        go_ret
        exact HE.out
end Go.Proofs.Ytdboepiobaehkaa.Mf
end
section
set_option linter.unusedVariables false
set_option linter.unusedSimpArgs false
namespace Go.Proofs.Ytdboepiobaehkaa.Mg
open Go.RowKit Go.Proofs.YtdboepiobaehkaaW.PrintWords Go.Proofs.Ytdboepiobaehkaa.PW Go.Proofs.Ytdboepiobaehkaa.Pc Go.Proofs.Ytdboepiobaehkaa.Ma Go.Proofs.Ytdboepiobaehkaa.Mb Go.Proofs.Ytdboepiobaehkaa.Mc Go.Proofs.Ytdboepiobaehkaa.Md Go.Proofs.Ytdboepiobaehkaa.Me Go.Proofs.Ytdboepiobaehkaa.Mf Dg
def hiv (l : List Int) (k : Nat) : Int := val 16777216 (l.drop k)
theorem hiv_nonneg {l : List Int} (h : Dig 16777216 l) (k : Nat) : 0 ≤ hiv l k := val_nonneg (h.drop k)
theorem hiv_blN {l : List Int} (h : Dig 16777216 l) (N : Nat) (hl : 24 * l.length ≤ N) (k : Nat) : bl (hiv l k).natAbs ≤ N := by
  apply bl_le
  have h1 := val_lt (by decide) (h.drop k)
  have h0 := hiv_nonneg h k
  have h2 : (16777216 : Nat) ^ (l.drop k).length ≤ 2 ^ N := by
    rw [show (16777216 : Nat) = 2 ^ 24 from rfl, ← Nat.pow_mul]
    exact Nat.pow_le_pow_right (by decide) (by rw [List.length_drop]; omega)
  have h3 : ((16777216 : Nat) : Int) ^ (l.drop k).length = ((16777216 ^ (l.drop k).length : Nat) : Int) := by simp
  unfold hiv at *
  rw [h3] at h1
  exact Nat.lt_of_lt_of_le (by omega) h2
theorem hiv_bl {l : List Int} (h : Dig 16777216 l) (hl : l.length ≤ 100) (k : Nat) : bl (hiv l k).natAbs ≤ 2400 := hiv_blN h 2400 (by omega) k
theorem hiv_step {l : List Int} (h : Dig 16777216 l) (k : Nat) : hiv l k = ((((hiv l (k + 1)) * 2 ^ 24).natAbs ||| (l.getD k 0).natAbs : Nat) : Int) := by
  have h0 := hiv_nonneg h (k + 1)
  have hd := h.all0 (by decide) k
  have e : hiv l k = l.getD k 0 + 16777216 * hiv l (k + 1) := val_drop' l k
  obtain ⟨a, ha⟩ := Int.eq_ofNat_of_zero_le h0
  obtain ⟨d, hd'⟩ := Int.eq_ofNat_of_zero_le hd.1
  have hdl : d < 16777216 := by have := hd.2; omega
  rw [e, ha, hd']
  have e2 : ((a : Int) * 2 ^ 24).natAbs = 2 ^ 24 * a := by
    have : ((a : Int) * 2 ^ 24) = ((2 ^ 24 * a : Nat) : Int) := by simp [Int.mul_comm]
    rw [this, Int.natAbs_natCast]
  rw [e2, Int.natAbs_natCast, ← Nat.two_pow_add_eq_or_of_lt (i := 24) hdl a]
  omega
theorem below_grownB {w w1 w2 : World} {g : Nat} (h : Below g w w1) (hg : g ≤ w1.heap.size) (k : w1.grownBy w2 (some g)) : Below g w w2 :=
  h.trans ⟨k.os, k.tape, k.output, k.size, fun i hi => k.block i (by omega) (by simp; omega)⟩
theorem below_then0 {w w1 w2 : World} (h : Below w.heap.size w w1) (k : Below w.heap.size w1 w2) : Below w.heap.size w w2 := h.trans k
set_option maxHeartbeats 1600000 in
theorem toBig {w : World} {s : Int} {A : Option Addr} {c : Nat} {l : List Int} (hC : (Kd.int .i64).C w A l.length l) (hd : Dig 16777216 l) (hl : l.length ≤ 100) :
    Calls Try.prog 84 #[.agg #[.int .i64 s, .slice A l.length c]] w (News w (if s < 0 then -(val 16777216 l) else val 16777216 l)) := by
  obtain ⟨W1, hW1⟩ : ∃ W1, W1 = w.alloc (.cells #[.int .i64 s, .slice A l.length c] 29) := ⟨_, rfl⟩
  obtain ⟨W2, hW2⟩ : ∃ W2, W2 = W1.alloc (.cells #[.bool false, .slice none 0 0] 111) := ⟨_, rfl⟩
  have hs1 : W1.heap.size = w.heap.size + 1 := by rw [hW1]; simp
  have hb1 : Below w.heap.size w W1 := by rw [hW1]; exact waq w _
  have hb2 : Below W1.heap.size W1 W2 := by rw [hW2]; exact waq W1 _
  have hb02 : Below w.heap.size w W2 := below_then hb1 hb2
  have hz2 : Z W2 W1.heap.size 0 := by rw [hW2]; exact Z.new W1
  have hbox : W1.heap[w.heap.size]? = some (.cells #[.int .i64 s, .slice A l.length c] 29 (0, 0)) := by rw [hW1]; exact heap_alloc_new w _
  have hbox2 := (hb2.block w.heap.size (by omega)).trans hbox
  -- what a round knows
  have hcell : ∀ wr : World, Below (w.heap.size + 1) W2 wr → (wr.cell? ⟨w.heap.size, 0, none⟩ = some (.int .i64 s) ∧ wr.cell? ⟨w.heap.size, 1, none⟩ = some (.slice A l.length c)) := by
    intro wr h
    have := (h.block w.heap.size (by omega)).trans hbox2
    exact ⟨kcq this 0, kcq this 1⟩
  have hlimb : ∀ (wr : World) (k : Nat), k < l.length → Below (w.heap.size + 1) W2 wr → ∃ ad, A = some ad ∧ wr.cell? (ad.add k) = some (.int .i64 (l.getD k 0)) := by
    intro wr k hk h
    obtain ⟨ad, hA, hc⟩ := Kd.at_int hC (k : Int) (by omega) (by omega)
    rw [Int.toNat_natCast, rdN] at hc
    have hlt := World.block_lt_of_cell? w _ hc
    exact ⟨ad, hA, ((h.mono (by omega)).cell hlt).trans ((hb02.cell hlt).trans hc)⟩
  have hW : W2 = (w.alloc (.cells #[.int .i64 s, .slice A l.length c] 29)).alloc (.cells #[.bool false, .slice none 0 0] 111) := by rw [hW2, hW1]
  rw [hs1] at hz2
  have HW := Lib.hid hW
  have HC := Lib.hid hcell
  have HL := Lib.hid hlimb
  have H02 := Lib.hid hb02
  have HZ2 := Lib.hid hz2
  have HD := Lib.hid hd
  have HBX := Lib.hid hbox2
  clear hW hW1 hW2 hcell hlimb hb02 hz2 hbox hbox2 hb1 hb2 hs1 hC hd
  clear W1
  -- one round: shifted, a limb put in
  have hsh : ∀ (wr : World) (k : Nat), Z wr (w.heap.size + 1) (hiv l (k + 1)) → Calls Try.prog 127 #[.pointer (some ⟨w.heap.size + 1, 0, none⟩), .pointer (some ⟨w.heap.size + 1, 0, none⟩), .int .u64 24] wr (Puts wr (w.heap.size + 1) (hiv l (k + 1) * 2 ^ 24)) := by
    intro wr k hz
    have := hiv_bl HD.out hl (k + 1)
    exact lsh (n := 24) hz.blk hz (by omega) (by omega)
  have hor : ∀ (wr : World) (k g : Nat), Z wr (w.heap.size + 1) (hiv l (k + 1) * 2 ^ 24) → Z wr g (l.getD k 0) → Calls Try.prog 143 #[.pointer (some ⟨w.heap.size + 1, 0, none⟩), .pointer (some ⟨w.heap.size + 1, 0, none⟩), .pointer (some ⟨g, 0, none⟩)] wr (Puts wr (w.heap.size + 1) (hiv l k)) := by
    intro wr k g hz hg
    have h1 := hiv_bl HD.out hl (k + 1)
    have hx := HD.out.all0 (by decide) k
    have h3 : bl (hiv l (k + 1) * 2 ^ 24).natAbs ≤ 536870912 := by
      rw [Int.natAbs_mul, show ((2 : Int) ^ 24).natAbs = 2 ^ 24 from rfl]
      have := bl_shift_le (hiv l (k + 1)).natAbs 24
      omega
    have h4 : bl (l.getD k 0).natAbs ≤ 536870912 := Nat.le_trans (bl_le (k := 24) (by omega)) (by omega)
    rw [hiv_step HD.out k]
    exact orr hz.blk hz hg h3 h4
  have hnew : ∀ (wr : World) (k : Nat), Calls Try.prog 113 #[.int .i64 (l.getD k 0)] wr (News wr (l.getD k 0)) := by
    intro wr k
    have hx := HD.out.all0 (by decide) k
    exact newInt (by omega) (by omega)
  have hfin : ∀ wr, Z wr (w.heap.size + 1) (hiv l 0) → Calls Try.prog 144 #[.pointer (some ⟨w.heap.size + 1, 0, none⟩), .pointer (some ⟨w.heap.size + 1, 0, none⟩)] wr (Puts wr (w.heap.size + 1) (-(hiv l 0))) := by
    intro wr hz
    have := hiv_bl HD.out hl 0
    exact neg hz.blk hz (by omega)
  have hout : ∀ (wr : World) (z : Int), Below (w.heap.size + 1) W2 wr → Z wr (w.heap.size + 1) z → News w z (.returned (.pointer (some ⟨w.heap.size + 1, 0, none⟩))) wr := by
    intro wr z hb hz
    exact ⟨_, rfl, hz, by omega, below_then0 H02.out (hb.mono (by omega))⟩
  have HSH := Lib.hid hsh
  have HOR := Lib.hid hor
  have HNW := Lib.hid hnew
  have HFN := Lib.hid hfin
  have HOUT := Lib.hid hout
  clear hsh hor hnew hfin hout
  have hv0 : hiv l 0 = val 16777216 l := by unfold hiv; rw [List.drop_zero]
  rw [← hv0]
  clear hv0
  by_cases hneg : s < 0
  all_goals
    go_enter Try.func84, Try.ntmps84
    go_wp2_with fail
    go_loopw [4] (fun i wr => ∃ k : Nat, i = .int .i64 ((k : Int) - 1) ∧ k ≤ l.length ∧ Hid (Z wr (w.heap.size + 1) (hiv l k)) ∧ Hid (Below (w.heap.size + 1) W2 wr)) (fun i _ => (intOf i + 1).toNat)
    case atStart =>
      refine ⟨l.length, rfl, Nat.le_refl _, Lib.hid ?_, Lib.hid ?_⟩
      · rw [← HW.out, show hiv l l.length = 0 by unfold hiv; rw [List.drop_length]; rfl]; exact HZ2.out
      · rw [← HW.out]; exact Below.refl _ _
    case round =>
      obtain ⟨k, rfl, hk, HZ, HB⟩ := hrel
      cases k with
      | zero =>
        obtain ⟨c0, c1⟩ := HC.out wr HB.out
        have HO := Lib.hid (HOUT.out wr _ HB.out HZ.out)
        have HN := Lib.hid (HFN.out wr HZ.out)
        have hlt : ((0 : Nat) : Int) - 1 = -1 := rfl
        rw [hlt]
        clear hlt
        go_wp2_with (first | (go_at_call 144; refine HN.out.mono ?_; rintro e w2 ⟨rfl, hz2, hg2⟩; have HO := Lib.hid (HOUT.out w2 _ (below_grownB HB.out (Nat.le_of_lt HZ.out.lt) hg2) hz2); clear hz2 hg2))
        go_ret
        exact HO.out
      | succ k =>
        have hlt : ((k + 1 : Nat) : Int) - 1 = (k : Int) := by omega
        rw [hlt]
        clear hlt
        go_wp2_with fail
        refine (HSH.out wr k HZ.out).mono ?_
        rintro e w2 ⟨rfl, hz2, hg2⟩
        have hb2 := below_grownB HB.out (Nat.le_of_lt HZ.out.lt) hg2
        obtain ⟨c0, c1⟩ := HC.out w2 hb2
        obtain ⟨ad, hA, hl2⟩ := HL.out w2 k (by omega) hb2
        subst hA
        have HZ3 := Lib.hid hz2
        have HB3 := Lib.hid hb2
        clear hz2 hg2 hb2 HZ HB
        go_wp2_with fail
        refine (HNW.out w2 k).mono ?_
        rintro e w3 ⟨g, rfl, hz3, hg3, hb3⟩
        have HZ4 := Lib.hid (HZ3.out.below hb3)
        have HB4 := Lib.hid (HB3.out.trans (hb3.mono (by have := HZ3.out.lt; omega)))
        have HZ5 := Lib.hid hz3
        clear hz3 hg3 hb3 HZ3 HB3 c0 c1 hl2
        go_wp2_with fail
        refine (HOR.out w3 k g HZ4.out HZ5.out).mono ?_
        rintro e w4 ⟨rfl, hz6, hg6⟩
        have HZ6 := Lib.hid hz6
        have HB6 := Lib.hid (below_grownB HB4.out (Nat.le_of_lt HZ4.out.lt) hg6)
        clear hz6 hg6
        go_wp2
        go_roundw
        case rel => exact ⟨k, rfl, by omega, HZ6, HB6⟩
        case measure => (simp [intOf]) <;> omega
end Go.Proofs.Ytdboepiobaehkaa.Mg
end
section
set_option linter.unusedVariables false
set_option linter.unusedSimpArgs false
namespace Go.Proofs.Ytdboepiobaehkaa.Mh
open Go.RowKit Go.Proofs.YtdboepiobaehkaaW.PrintWords Go.Proofs.Ytdboepiobaehkaa.PW Go.Proofs.Ytdboepiobaehkaa.Pc Go.Proofs.Ytdboepiobaehkaa.Pb Go.Proofs.Ytdboepiobaehkaa.Pw Go.Proofs.Ytdboepiobaehkaa.Ma Go.Proofs.Ytdboepiobaehkaa.Mb Go.Proofs.Ytdboepiobaehkaa.Mc Go.Proofs.Ytdboepiobaehkaa.Md Go.Proofs.Ytdboepiobaehkaa.Me Go.Proofs.Ytdboepiobaehkaa.Mg Dg
theorem cBig {w : World} {s : Int} {A : Option Addr} {c : Nat} {l : List Int} (hC : (Kd.int .i64).C w A l.length l) (h : isW s l = true) :
    Calls Try.prog 84 #[.agg #[.int .i64 s, .slice A l.length c]] w (News w (wv s l)) := by
  obtain ⟨hd, hl, _, _⟩ := isW_spec h
  exact toBig hC hd hl
theorem C_at {w w1 : World} {A : Option Addr} {l : List Int} (hC : (Kd.int .i64).C w A l.length l) (hb : Below w.heap.size w w1) : (Kd.int .i64).C w1 A l.length l := Kd.C_below hC hb
end Go.Proofs.Ytdboepiobaehkaa.Mh
end
section
set_option linter.unusedVariables false
set_option linter.unusedSimpArgs false
namespace Go.Proofs.Ytdboepiobaehkaa.Mi
open Go.RowKit Go.Proofs.YtdboepiobaehkaaW.PrintWords Go.Proofs.Ytdboepiobaehkaa.PW Go.Proofs.Ytdboepiobaehkaa.Pc Go.Proofs.Ytdboepiobaehkaa.Ma Go.Proofs.Ytdboepiobaehkaa.Mb Go.Proofs.Ytdboepiobaehkaa.Mc Go.Proofs.Ytdboepiobaehkaa.Md Go.Proofs.Ytdboepiobaehkaa.Me Dg
open Pm (sgn)
set_option maxHeartbeats 800000 in
theorem cmp {w : World} {p q : Nat} {x y : Int} (hx : Z w p x) (hy : Z w q y) (h1 : bl x.natAbs ≤ 1073741823) (h2 : bl y.natAbs ≤ 1073741823) :
    Calls Try.prog 173 #[.pointer (some ⟨p, 0, none⟩), .pointer (some ⟨q, 0, none⟩)] w (Tells w (.int .i64 (sgn (x - y)))) := by
  obtain ⟨A, c, k0, k1, hm, hp⟩ := Z.open hx
  obtain ⟨B, d, j0, j1, hn, hq⟩ := Z.open hy
  have hC := fun (W : World) (hb : Below w.heap.size w W) => cCmp (hm.below hb) (hn.below hb) (by omega) (by omega)
  have hD := fun (W : World) (hb : Below w.heap.size w W) => cCmp (hn.below hb) (hm.below hb) (by omega) (by omega)
  by_cases hxn : x < 0 <;> by_cases hyn : y < 0
  · have e : sgn ((y.natAbs : Int) - x.natAbs) = sgn (x - y) := by congr 1; omega
    rw [e] at hD
    rw [show decide (x < 0) = true by simpa using hxn] at k0
    rw [show decide (y < 0) = true by simpa using hyn] at j0
    have HD := Lib.hid hD
    clear hC hD e hxn hyn h1 h2 hm hn hx hy
    go_enter Try.func173, Try.ntmps173
    go_wp2
    go_quiet ((go_at_call 213; exact Calls.quiet_of (HD.out _ (below_drawn _))))
    go_wp2
    go_ret
    exact ⟨rfl, _, rfl⟩
  · have e : sgn (x - y) = -1 := by unfold sgn; rw [if_pos (by omega)]
    rw [e]
    rw [show decide (x < 0) = true by simpa using hxn] at k0
    rw [show decide (y < 0) = false by simpa using hyn] at j0
    clear hC hD e hxn hyn h1 h2 hm hn hx hy
    go_enter Try.func173, Try.ntmps173
    go_wp2
    go_ret
    exact ⟨rfl, 0, rfl⟩
  · have e : sgn (x - y) = 1 := by unfold sgn; rw [if_neg (by omega), if_neg (by omega)]
    rw [e]
    rw [show decide (x < 0) = false by simpa using hxn] at k0
    rw [show decide (y < 0) = true by simpa using hyn] at j0
    clear hC hD e hxn hyn h1 h2 hm hn hx hy
    go_enter Try.func173, Try.ntmps173
    go_wp2
    go_ret
    exact ⟨rfl, 0, rfl⟩
  · have e : sgn ((x.natAbs : Int) - y.natAbs) = sgn (x - y) := by congr 1; omega
    rw [e] at hC
    rw [show decide (x < 0) = false by simpa using hxn] at k0
    rw [show decide (y < 0) = false by simpa using hyn] at j0
    have HC := Lib.hid hC
    clear hC hD e hxn hyn h1 h2 hm hn hx hy
    go_enter Try.func173, Try.ntmps173
    go_wp2
    go_quiet ((go_at_call 213; exact Calls.quiet_of (HC.out _ (below_drawn _))))
    go_wp2
    go_ret
    exact ⟨rfl, _, rfl⟩
def sv (n : Bool) (m : Nat) : Int := if n = true then -(m : Int) else m
theorem sv_abs (z : Int) : sv (decide (z < 0)) z.natAbs = z := natAbs_if z
set_option maxHeartbeats 1600000 in
theorem plus {w : World} {p q : Nat} {x : Int} {neg : Bool} {B : Option Addr} {d m : Nat} (hp : Blk w p) (hx : Z w q x) (hn : Mg w B d (D m)) (h1 : bl x.natAbs ≤ 536870912) (h2 : bl m ≤ 536870912) :
    Calls Try.prog 200 #[.pointer (some ⟨p, 0, none⟩), .pointer (some ⟨q, 0, none⟩), .bool neg, .slice B (D m).length d] w (Puts w p (x + sv neg m)) := by
  obtain ⟨A, c, k0, k1, hm, hq⟩ := Z.open hx
  have hadd := bl_add_le x.natAbs m
  have hA := fun (W : World) (hb : Below w.heap.size w W) => (cAdd (hm.below hb) (hn.below hb) (by omega) (by omega)).mono fun e w' h => GivesMg.of hb h
  have hC := fun (W : World) (hb : Below w.heap.size w W) => cCmp (hm.below hb) (hn.below hb) (by omega) (by omega)
  by_cases hs : decide (x < 0) = neg
  · -- one sign
    have e : (if neg = true then -((x.natAbs + m : Nat) : Int) else ((x.natAbs + m : Nat) : Int)) = x + sv neg m := by
      rw [← sv_abs x, hs]; unfold sv
      cases neg <;> simp <;> omega
    have hP := fun (w1 : World) (A' : Option Addr) (c' : Nat) h1 h2 => put_of (w1 := w1) (A := A') (c := c') (neg := neg) (n := x.natAbs + m) hp h1 h2 (by omega)
    rw [e] at hP
    rw [hs] at k0
    have HP := Lib.hid hP
    have HA := Lib.hid hA
    clear hA hC hP e hs hadd h1 h2 hm hn hx hp
    cases neg
    all_goals
      go_enter Try.func200, Try.ntmps200
      go_wp2_with fail
      refine (HA.out _ (Below.refl _ _)).mono ?_
      rintro e w1 ⟨A', c', rfl, hm', hb'⟩
      have HPM := Lib.hid (HP.out w1 A' c' hb' hm')
      clear hm' hb'
      go_wp2_with fail
      refine HPM.out.mono ?_
      rintro e w2 ⟨rfl, hz2, hg2⟩
      have HE := Lib.hid (show Puts w p _ _ w2 from ⟨rfl, hz2, hg2⟩)
      clear hz2 hg2
      go_wp2
      go_ret
      exact HE.out
  · have hneq : neg = !decide (x < 0) := by cases neg <;> cases h : decide (x < 0) <;> simp_all
    by_cases hge : m ≤ x.natAbs
    · have hS := fun (W : World) (hb : Below w.heap.size w W) => (cSub (hm.below hb) (hn.below hb) (by omega) hge).mono fun e w' h => GivesMg.of hb h
      have hmo := bl_mono (Nat.sub_le x.natAbs m)
      have e : (if decide (x < 0) = true then -((x.natAbs - m : Nat) : Int) else ((x.natAbs - m : Nat) : Int)) = x + sv neg m := by
        rw [hneq]; unfold sv
        by_cases h : x < 0 <;> simp [h] <;> omega
      have hP := fun (w1 : World) (A' : Option Addr) (c' : Nat) h1 h2 => put_of (w1 := w1) (A := A') (c := c') (neg := decide (x < 0)) (n := x.natAbs - m) hp h1 h2 (by omega)
      rw [e] at hP
      have es : sgn ((x.natAbs : Int) - m) = sgn ((x.natAbs - m : Nat) : Int) := by congr 1; omega
      have es0 : 0 ≤ sgn ((x.natAbs : Int) - m) := by unfold sgn; split <;> (try split) <;> omega
      have HP := Lib.hid hP
      have HS := Lib.hid hS
      have HC := Lib.hid hC
      clear hA hC hP hS e hs hadd h1 h2 hm hn hx hp es hmo hge
      generalize sgn ((x.natAbs : Int) - m) = sg at *
      rw [hneq] at *
      clear hneq
      generalize decide (x < 0) = b at *
      cases b
      all_goals
        go_enter Try.func200, Try.ntmps200
        go_wp2_with fail
        refine (HC.out _ (Below.refl _ _)).mono ?_
        rintro e w1 ⟨rfl, n, rfl⟩
        go_wp2_with fail
        go_region_with (first | (go_at_call 211; refine (HS.out _ (by first | exact below_drawn _ | exact (below_drawn _).drew)).mono ?_; rintro e w1 ⟨A', c', rfl, hm', hb'⟩; have HPM := Lib.hid (HP.out w1 A' c' hb' hm'); have k0' := (hb'.cell (p := ⟨q, 0, none⟩) hq).trans k0; clear hm' hb') | (go_at_call 182; refine HPM.out.mono ?_; rintro e w2 ⟨rfl, hz2, hg2⟩; have HE := Lib.hid (show Puts w p _ _ w2 from ⟨rfl, hz2, hg2⟩); clear hz2 hg2))
        all_goals go_wp2
        all_goals go_ret
        all_goals exact HE.out
    · have hS := fun (W : World) (hb : Below w.heap.size w W) => (cSub (hn.below hb) (hm.below hb) (by omega) (by omega)).mono fun e w' h => GivesMg.of hb h
      have hmo := bl_mono (Nat.sub_le m x.natAbs)
      have e : (if neg = true then -((m - x.natAbs : Nat) : Int) else ((m - x.natAbs : Nat) : Int)) = x + sv neg m := by
        rw [hneq]; unfold sv
        by_cases h : x < 0 <;> simp [h] <;> omega
      have hP := fun (w1 : World) (A' : Option Addr) (c' : Nat) h1 h2 => put_of (w1 := w1) (A := A') (c := c') (neg := neg) (n := m - x.natAbs) hp h1 h2 (by omega)
      rw [e] at hP
      have es : sgn ((x.natAbs : Int) - m) = -1 := by unfold sgn; rw [if_pos (by omega)]
      rw [es] at hC
      have HP := Lib.hid hP
      have HS := Lib.hid hS
      have HC := Lib.hid hC
      clear hA hC hP hS e hs hadd h1 h2 hm hn hx hp es hmo hge
      rw [hneq] at *
      clear hneq
      generalize decide (x < 0) = b at *
      cases b
      all_goals
        go_enter Try.func200, Try.ntmps200
        go_wp2_with fail
        refine (HC.out _ (Below.refl _ _)).mono ?_
        rintro e w1 ⟨rfl, n, rfl⟩
        go_wp2_with fail
        refine (HS.out _ (below_drawn _)).mono ?_
        rintro e w1 ⟨A', c', rfl, hm', hb'⟩
        have HPM := Lib.hid (HP.out w1 A' c' hb' hm')
        clear hm' hb'
        go_wp2_with fail
        refine HPM.out.mono ?_
        rintro e w2 ⟨rfl, hz2, hg2⟩
        have HE := Lib.hid (show Puts w p _ _ w2 from ⟨rfl, hz2, hg2⟩)
        clear hz2 hg2
        go_wp2
        go_ret
        exact HE.out
end Go.Proofs.Ytdboepiobaehkaa.Mi
end
section
set_option linter.unusedVariables false
set_option linter.unusedSimpArgs false
namespace Go.Proofs.Ytdboepiobaehkaa.Mj
open Go.RowKit Go.Proofs.YtdboepiobaehkaaW.PrintWords Go.Proofs.Ytdboepiobaehkaa.PW Go.Proofs.Ytdboepiobaehkaa.Pc Go.Proofs.Ytdboepiobaehkaa.Ma Go.Proofs.Ytdboepiobaehkaa.Mb Go.Proofs.Ytdboepiobaehkaa.Mc Go.Proofs.Ytdboepiobaehkaa.Md Go.Proofs.Ytdboepiobaehkaa.Me Go.Proofs.Ytdboepiobaehkaa.Mi Dg
open Pm (sgn)
theorem Puts.of {w W w' : World} {p : Nat} {z : Int} {e : Ending} (hb : Below w.heap.size w W) (h : Puts W p z e w') : Puts w p z e w' := Mc.Puts.below hb h
set_option maxHeartbeats 1600000 in
theorem add {w : World} {p q s : Nat} {x y : Int} (hp : Blk w p) (hx : Z w q x) (hy : Z w s y) (h1 : bl x.natAbs ≤ 536870912) (h2 : bl y.natAbs ≤ 536870912) :
    Calls Try.prog 152 #[.pointer (some ⟨p, 0, none⟩), .pointer (some ⟨q, 0, none⟩), .pointer (some ⟨s, 0, none⟩)] w (Puts w p (x + y)) := by
  obtain ⟨B, d, j0, j1, hn, hs⟩ := Z.open hy
  have hP := fun (W : World) (hb : Below w.heap.size w W) => (plus (neg := decide (y < 0)) (hp.below hb) (hx.below hb) (hn.below hb) h1 h2).mono fun e w' h => Puts.of hb h
  rw [sv_abs] at hP
  have HP := Lib.hid hP
  clear hP hn h1 h2 hp hx hy
  generalize decide (y < 0) = b at *
  go_enter Try.func152, Try.ntmps152
  go_wp2
  go_region_with (go_at_call 200; refine (HP.out _ (by first | exact Below.refl _ _ | exact (Below.refl _ _).drew)).mono ?_; rintro e w2 ⟨rfl, hz2, hg2⟩; have HE := Lib.hid (show Puts w p (x + y) _ w2 from ⟨rfl, hz2, hg2⟩); clear hz2 hg2)
  all_goals go_wp2
  all_goals go_ret
  all_goals exact HE.out
set_option maxHeartbeats 1600000 in
theorem sub {w : World} {p q s : Nat} {x y : Int} (hp : Blk w p) (hx : Z w q x) (hy : Z w s y) (h1 : bl x.natAbs ≤ 536870912) (h2 : bl y.natAbs ≤ 536870912) :
    Calls Try.prog 171 #[.pointer (some ⟨p, 0, none⟩), .pointer (some ⟨q, 0, none⟩), .pointer (some ⟨s, 0, none⟩)] w (Puts w p (x - y)) := by
  obtain ⟨B, d, j0, j1, hn, hs⟩ := Z.open hy
  have hP := fun (W : World) (hb : Below w.heap.size w W) => (plus (neg := !decide (y < 0)) (hp.below hb) (hx.below hb) (hn.below hb) h1 h2).mono fun e w' h => Puts.of hb h
  rw [show sv (!decide (y < 0)) y.natAbs = -y from natAbs_neg_if y, ← Int.sub_eq_add_neg] at hP
  have HP := Lib.hid hP
  clear hP hn h1 h2 hp hx hy
  generalize decide (y < 0) = b at *
  go_enter Try.func171, Try.ntmps171
  go_wp2
  go_region_with (go_at_call 200; refine (HP.out _ (by first | exact Below.refl _ _ | exact (Below.refl _ _).drew)).mono ?_; rintro e w2 ⟨rfl, hz2, hg2⟩; have HE := Lib.hid (show Puts w p (x - y) _ w2 from ⟨rfl, hz2, hg2⟩); clear hz2 hg2)
  all_goals go_wp2
  all_goals go_ret
  all_goals exact HE.out
end Go.Proofs.Ytdboepiobaehkaa.Mj
end
section
set_option linter.unusedVariables false
set_option linter.unusedSimpArgs false
namespace Go.Proofs.Ytdboepiobaehkaa.Mk
open Go.RowKit Go.Proofs.YtdboepiobaehkaaW.PrintWords Go.Proofs.Ytdboepiobaehkaa.PW Go.Proofs.Ytdboepiobaehkaa.Pc Go.Proofs.Ytdboepiobaehkaa.Ma Go.Proofs.Ytdboepiobaehkaa.Mb Go.Proofs.Ytdboepiobaehkaa.Mc Go.Proofs.Ytdboepiobaehkaa.Md Go.Proofs.Ytdboepiobaehkaa.Me Go.Proofs.Ytdboepiobaehkaa.Mi Go.Proofs.Ytdboepiobaehkaa.Mj Dg
open Pm (sgn)
def lw (n k : Nat) : Int := val 4294967296 (((D n).take 2).drop k)
theorem lw_zero (n : Nat) : lw n 0 = ((n % 18446744073709551616 : Nat) : Int) := by
  unfold lw
  rw [List.drop_zero]
  have := (val_div_mod (by decide) (D_dig n) 2).2
  rw [D_val] at this
  rw [← this]
  rfl
theorem lw_end (n k : Nat) (h : 2 ≤ k ∨ (D n).length ≤ k) : lw n k = 0 := by
  unfold lw
  rw [List.drop_of_length_le (by simp; omega)]
  rfl
theorem lw_bd (n k : Nat) (h : 0 < k) : 0 ≤ lw n k ∧ lw n k < 4294967296 := by
  unfold lw
  have hd := ((D_dig n).take 2).drop k
  have h1 := val_nonneg hd
  have h2 := val_lt (by decide) hd
  refine ⟨h1, ?_⟩
  have h3 : (((D n).take 2).drop k).length ≤ 1 := by simp; omega
  have h4 : ((4294967296 : Nat) : Int) ^ (((D n).take 2).drop k).length ≤ 4294967296 := by
    rcases Nat.lt_or_ge (((D n).take 2).drop k).length 1 with h | h
    · have : (((D n).take 2).drop k).length = 0 := by omega
      rw [this]; decide
    · have : (((D n).take 2).drop k).length = 1 := by omega
      rw [this]; decide
  omega
theorem lw_step (n k : Nat) (h : k < 2) (hk : k < (D n).length) : bits .or .u64 (IntKind.u64.wrap (lw n (k + 1) * 4294967296)) ((D n).getD k 0) = lw n k := by
  have hb := lw_bd n (k + 1) (by omega)
  have hd := (D_dig n).all0 (by decide) k
  have e : lw n k = (D n).getD k 0 + 4294967296 * lw n (k + 1) := by
    unfold lw
    have := val_drop' (B := 4294967296) ((D n).take 2) k
    rw [this]
    congr 1
    simp [List.getD, List.getElem?_take, h]
  rw [Pn.u64_id (by omega) (by omega), e]
  have := Po.or_high (x := (D n).getD k 0) (y := lw n (k + 1)) hd.1 (by omega) hb.1 hb.2
  rw [← this]
  obtain ⟨a, ha⟩ := Int.eq_ofNat_of_zero_le hd.1
  obtain ⟨b, hb'⟩ := Int.eq_ofNat_of_zero_le hb.1
  have hd2 : a < 4294967296 := by have := hd.2; omega
  have hb2 : b < 4294967296 := by have := hb.2; omega
  rw [ha, hb']
  have e2 : (b : Int) * 4294967296 = ((b * 4294967296 : Nat) : Int) := by simp
  have h1 : a < 2 ^ 64 := by omega
  have h2 : b * 4294967296 < 2 ^ 64 := by omega
  rw [e2, (bits_nat .u64 64 (by decide) Po.wraps_u64 _ _ h2 h1).2, (bits_nat .u64 64 (by decide) Po.wraps_u64 _ _ h1 h2).2, Nat.or_comm]
set_option maxHeartbeats 1600000 in
theorem low {w : World} {q : Nat} {z : Int} (hz : Z w q z) : Calls Try.prog 214 #[.pointer (some ⟨q, 0, none⟩)] w fun e w' => e = .returned (.int .u64 ((z.natAbs % 18446744073709551616 : Nat) : Int)) ∧ w = w' := by
  obtain ⟨A, c, k0, k1, hm, hq⟩ := Z.open hz
  have hres := lw_zero z.natAbs
  have hcell : ∀ k, k < (D z.natAbs).length → ∃ ad, A = some ad ∧ w.cell? (ad.add k) = some (.int .u32 ((D z.natAbs).getD k 0)) := fun k hk => by
    obtain ⟨ad, hA, hc⟩ := Kd.at_int hm.1 (k : Int) (by omega) (by omega)
    rw [Int.toNat_natCast, rdN] at hc
    exact ⟨ad, hA, hc⟩
  have hmax : (D z.natAbs).length ≤ 9223372036854775807 := hm.1.2.1
  have hst := fun k h1 h2 => lw_step z.natAbs k h1 h2
  have hen := fun k h => lw_end z.natAbs k h
  have hdd := (D_dig z.natAbs).all0 (by decide)
  have hlb := fun k h => lw_bd z.natAbs k h
  have HR := Lib.hid hres
  have HC := Lib.hid hcell
  have HS := Lib.hid hst
  have HE := Lib.hid hen
  have HD := Lib.hid hdd
  have HLB := Lib.hid hlb
  clear hres hcell hm hz hst hen hdd hlb
  generalize hln : (D z.natAbs).length = n at *
  clear hln
  obtain ⟨m, hm2, hmn, hmm⟩ : ∃ m : Nat, m ≤ 2 ∧ m ≤ n ∧ (2 ≤ m ∨ n ≤ m) := ⟨min n 2, by omega, by omega, by omega⟩
  have hst0 : lw z.natAbs m = 0 := HE.out m hmm
  have HST := Lib.hid hst0
  clear hst0
  by_cases hlt : n < 2
  · obtain rfl : n = m := by omega
    go_enter Try.func214, Try.ntmps214
    go_wp2_with fail
    go_loop [3, 4] (fun u i => ∃ k : Nat, k ≤ n ∧ i = .int .i64 ((k : Int) - 1) ∧ u = .int .u64 (lw z.natAbs k)) (fun _ i => (intOf i + 1).toNat)
    case atStart => exact ⟨n, Nat.le_refl _, rfl, by rw [HST.out]⟩
    case round =>
      obtain ⟨k, hk, rfl, rfl⟩ := hrel
      cases k with
      | zero =>
        have e : ((0 : Nat) : Int) - 1 = -1 := rfl
        rw [e]
        go_wp2
        go_ret
        exact ⟨by show Ending.returned (Value.int .u64 (lw z.natAbs 0)) = _; rw [HR.out]; simp, rfl⟩
      | succ k =>
        have e : ((k + 1 : Nat) : Int) - 1 = (k : Int) := by omega
        rw [e]
        clear e
        obtain ⟨ad, hA, hc⟩ := HC.out k (by omega)
        subst hA
        have hs := Lib.hid (HS.out k (by omega) (by omega))
        have hd := HD.out k
        have hb := HLB.out (k + 1) (by omega)
        have hx := Pn.u64_id (n := lw z.natAbs (k + 1) * 4294967296) (by omega) (by omega)
        have hs2 := hs.out
        rw [hx] at hs2
        have HS2 := Lib.hid hs2
        clear hs hs2 hx
        generalize hl1 : lw z.natAbs (k + 1) = l1 at *
        generalize hd1 : (D z.natAbs).getD k 0 = d1 at *
        clear hl1 hd1
        go_wp2
        go_round
        case rel => exact ⟨k, by omega, rfl, by rw [HS2.out]⟩
        case measure => (simp [intOf]) <;> omega
  · obtain rfl : m = 2 := by omega
    by_cases hn2 : n = 2
    · subst hn2
      go_enter Try.func214, Try.ntmps214
      go_wp2_with fail
      go_loop [3, 4] (fun u i => ∃ k : Nat, k ≤ 2 ∧ i = .int .i64 ((k : Int) - 1) ∧ u = .int .u64 (lw z.natAbs k)) (fun _ i => (intOf i + 1).toNat)
      case atStart => exact ⟨2, Nat.le_refl _, rfl, by rw [HST.out]⟩
      case round =>
        obtain ⟨k, hk, rfl, rfl⟩ := hrel
        cases k with
        | zero =>
          have e : ((0 : Nat) : Int) - 1 = -1 := rfl
          rw [e]
          go_wp2
          go_ret
          exact ⟨by show Ending.returned (Value.int .u64 (lw z.natAbs 0)) = _; rw [HR.out]; simp, rfl⟩
        | succ k =>
          have e : ((k + 1 : Nat) : Int) - 1 = (k : Int) := by omega
          rw [e]
          clear e
          obtain ⟨ad, hA, hc⟩ := HC.out k (by omega)
          subst hA
          have hs := Lib.hid (HS.out k (by omega) (by omega))
          have hd := HD.out k
          have hb := HLB.out (k + 1) (by omega)
          have hx := Pn.u64_id (n := lw z.natAbs (k + 1) * 4294967296) (by omega) (by omega)
          have hs2 := hs.out
          rw [hx] at hs2
          have HS2 := Lib.hid hs2
          clear hs hs2 hx
          generalize hl1 : lw z.natAbs (k + 1) = l1 at *
          generalize hd1 : (D z.natAbs).getD k 0 = d1 at *
          clear hl1 hd1
          go_wp2
          go_round
          case rel => exact ⟨k, by omega, rfl, by rw [HS2.out]⟩
          case measure => (simp [intOf]) <;> omega

    · have hn3 : 2 < n := by omega
      clear hlt
      go_enter Try.func214, Try.ntmps214
      go_wp2_with fail
      go_loop [3, 4] (fun u i => ∃ k : Nat, k ≤ 2 ∧ i = .int .i64 ((k : Int) - 1) ∧ u = .int .u64 (lw z.natAbs k)) (fun _ i => (intOf i + 1).toNat)
      case atStart => exact ⟨2, Nat.le_refl _, rfl, by rw [HST.out]⟩
      case round =>
        obtain ⟨k, hk, rfl, rfl⟩ := hrel
        cases k with
        | zero =>
          have e : ((0 : Nat) : Int) - 1 = -1 := rfl
          rw [e]
          go_wp2
          go_ret
          exact ⟨by show Ending.returned (Value.int .u64 (lw z.natAbs 0)) = _; rw [HR.out]; simp, rfl⟩
        | succ k =>
          have e : ((k + 1 : Nat) : Int) - 1 = (k : Int) := by omega
          rw [e]
          clear e
          obtain ⟨ad, hA, hc⟩ := HC.out k (by omega)
          subst hA
          have hs := Lib.hid (HS.out k (by omega) (by omega))
          have hd := HD.out k
          have hb := HLB.out (k + 1) (by omega)
          have hx := Pn.u64_id (n := lw z.natAbs (k + 1) * 4294967296) (by omega) (by omega)
          have hs2 := hs.out
          rw [hx] at hs2
          have HS2 := Lib.hid hs2
          clear hs hs2 hx
          generalize hl1 : lw z.natAbs (k + 1) = l1 at *
          generalize hd1 : (D z.natAbs).getD k 0 = d1 at *
          clear hl1 hd1
          go_wp2
          go_round
          case rel => exact ⟨k, by omega, rfl, by rw [HS2.out]⟩
          case measure => (simp [intOf]) <;> omega
theorem natAbs_mod {z : Int} (h0 : -9223372036854775808 ≤ z) (h1 : z ≤ 9223372036854775807) : ((z.natAbs % 18446744073709551616 : Nat) : Int) = z.natAbs := by omega
set_option maxHeartbeats 800000 in
theorem int64 {w : World} {q : Nat} {z : Int} (hz : Z w q z) (h0 : -9223372036854775808 ≤ z) (h1 : z ≤ 9223372036854775807) : Calls Try.prog 175 #[.pointer (some ⟨q, 0, none⟩)] w fun e w' => e = .returned (.int .i64 z) ∧ w = w' := by
  obtain ⟨A, c, k0, k1, hm, hq⟩ := Z.open hz
  have hl := low hz
  rw [natAbs_mod h0 h1] at hl
  have HL := Lib.hid hl
  clear hl hm hz
  by_cases hn : z < 0
  · have e : IntKind.i64.wrap (-(IntKind.i64.wrap (z.natAbs : Int))) = z := by rw [IntKind.wrap_i64, IntKind.wrap_i64]; omega
    have e2 : wrap64 (-(wrap64 (z.natAbs : Int))) = z := by unfold wrap64; omega
    rw [show decide (z < 0) = true by simpa using hn] at k0
    have E := Lib.hid e2
    clear e e2 h0 h1 hn
    generalize (z.natAbs : Int) = a at *
    go_enter Try.func175, Try.ntmps175
    go_wp2_with fail
    refine HL.out.mono ?_
    rintro e w1 ⟨rfl, rfl⟩
    go_wp2
    go_ret
    exact ⟨by rw [← E.out]; rfl, rfl⟩
  · have e2 : wrap64 (z.natAbs : Int) = z := by unfold wrap64; omega
    rw [show decide (z < 0) = false by simpa using hn] at k0
    have E := Lib.hid e2
    clear e2 h0 h1 hn
    generalize (z.natAbs : Int) = a at *
    go_enter Try.func175, Try.ntmps175
    go_wp2_with fail
    refine HL.out.mono ?_
    rintro e w1 ⟨rfl, rfl⟩
    go_wp2
    go_ret
    exact ⟨by rw [← E.out]; rfl, rfl⟩
theorem D_one : D 1 = [1] := by
  have := D_of (l := [1]) (Dig.cons (by decide) (by decide) Dig.nil) (by intro _ h; simp at h)
  exact this
theorem Mg_one {w : World} : Mg (w.alloc (.cells #[.int .u32 1] 120)) (some ⟨w.heap.size, 0, none⟩) 1 (D 1) := by
  rw [D_one]
  exact Mg.row (xs := [1]) (heap_alloc_new w _) rfl (by simp)
theorem shr_neg {z : Int} (hz : z < 0) (n : Nat) : -(((z.natAbs - 1) / 2 ^ n + 1 : Nat) : Int) = z / 2 ^ n := by
  obtain ⟨m, hm⟩ : ∃ m : Nat, z = Int.negSucc m := ⟨z.natAbs - 1, by omega⟩
  subst hm
  have e : ((2 : Int) ^ n) = ((2 ^ n : Nat) : Int) := by simp
  rw [Int.negSucc_ediv _ (by rw [e]; have := Nat.two_pow_pos n; omega), e]
  show -(((m + 1 - 1) / 2 ^ n + 1 : Nat) : Int) = _
  rw [Nat.add_sub_cancel]
  rfl
theorem shr_pos {z : Int} (hz : ¬ z < 0) (n : Nat) : ((z.natAbs / 2 ^ n : Nat) : Int) = z / 2 ^ n := by
  have e : ((2 : Int) ^ n) = ((2 ^ n : Nat) : Int) := by simp
  obtain ⟨m, rfl⟩ := Int.eq_ofNat_of_zero_le (show 0 ≤ z by omega)
  rw [e, Int.natAbs_natCast]
  rfl
set_option maxHeartbeats 1600000 in
theorem rsh {w : World} {p q : Nat} {z : Int} {n : Nat} (hp : Blk w p) (hz : Z w q z) (h1 : bl z.natAbs ≤ 268435456) (h2 : n ≤ 268435456) :
    Calls Try.prog 170 #[.pointer (some ⟨p, 0, none⟩), .pointer (some ⟨q, 0, none⟩), .int .u64 n] w (Puts w p (z / 2 ^ n)) := by
  obtain ⟨A, c, k0, k1, hm, hq⟩ := Z.open hz
  by_cases hn : z < 0
  · have b1 := bl_mono (Nat.sub_le z.natAbs 1)
    have b2 := bl_mono (Nat.div_le_self (z.natAbs - 1) (2 ^ n))
    have b3 := bl_add_le ((z.natAbs - 1) / 2 ^ n) 1
    have b4 : bl 1 = 1 := rfl
    have hS := fun (W : World) (hb : Below w.heap.size w W) => (cSub ((hm.below hb).below (waq W _)) (Mg_one (w := W)) (by omega) (by omega)).mono fun e w' h => GivesMg.of (below_then hb (waq W _)) h
    have hR := fun (W : World) (A' : Option Addr) (c' : Nat) (hb : Below w.heap.size w W) (hm' : Mg W A' c' (D (z.natAbs - 1))) => (cRight hm' (n := n) (by omega) (by omega)).mono fun e w' h => GivesMg.of hb h
    have hA := fun (W : World) (A' : Option Addr) (c' : Nat) (hb : Below w.heap.size w W) (hm' : Mg W A' c' (D ((z.natAbs - 1) / 2 ^ n))) => (cAdd (hm'.below (waq W _)) (Mg_one (w := W)) (by omega) (by omega)).mono fun e w' h => GivesMg.of (below_then hb (waq W _)) h
    have hP := fun (w1 : World) (A' : Option Addr) (c' : Nat) h1 h2 => put_of (w1 := w1) (A := A') (c := c') (neg := true) (n := (z.natAbs - 1) / 2 ^ n + 1) hp h1 h2 (by omega)
    simp only [if_true] at hP
    rw [shr_neg hn] at hP
    rw [show decide (z < 0) = true by simpa using hn] at k0
    have l1 : (D 1).length = 1 := by rw [D_one]; rfl
    rw [l1] at hS hA
    have HS := Lib.hid hS
    have HR := Lib.hid hR
    have HA := Lib.hid hA
    have HP := Lib.hid hP
    clear hS hR hA hP b1 b2 b3 b4 h1 h2 hm hp hz hn l1
    go_enter Try.func170, Try.ntmps170
    go_wp2_with fail
    refine (HS.out _ (Below.refl _ _)).mono ?_
    rintro e w1 ⟨A1, c1, rfl, hm1, hb1⟩
    have HR1 := Lib.hid (HR.out w1 A1 c1 hb1 hm1)
    clear hm1 hb1
    go_wp2_with fail
    refine HR1.out.mono ?_
    rintro e w2 ⟨A2, c2, rfl, hm2, hb2⟩
    have HA1 := Lib.hid (HA.out w2 A2 c2 hb2 hm2)
    clear hm2 hb2
    go_wp2_with fail
    refine HA1.out.mono ?_
    rintro e w3 ⟨A3, c3, rfl, hm3, hb3⟩
    have HP1 := Lib.hid (HP.out w3 A3 c3 hb3 hm3)
    clear hm3 hb3
    go_wp2_with fail
    refine HP1.out.mono ?_
    rintro e w4 ⟨rfl, hz2, hg2⟩
    have HE := Lib.hid (show Puts w p (z / 2 ^ n) _ w4 from ⟨rfl, hz2, hg2⟩)
    clear hz2 hg2
    go_wp2
    go_ret
    exact HE.out
  · have b2 := bl_mono (Nat.div_le_self z.natAbs (2 ^ n))
    have hR := fun (W : World) (hb : Below w.heap.size w W) => (cRight (hm.below hb) (n := n) (by omega) (by omega)).mono fun e w' h => GivesMg.of hb h
    have hP := fun (w1 : World) (A' : Option Addr) (c' : Nat) h1 h2 => put_of (w1 := w1) (A := A') (c := c') (neg := false) (n := z.natAbs / 2 ^ n) hp h1 h2 (by omega)
    simp only [Bool.false_eq_true, if_false] at hP
    rw [shr_pos hn] at hP
    rw [show decide (z < 0) = false by simpa using hn] at k0
    have HR := Lib.hid hR
    have HP := Lib.hid hP
    clear hR hP b2 h1 h2 hm hp hz hn
    go_enter Try.func170, Try.ntmps170
    go_wp2_with fail
    refine (HR.out _ (Below.refl _ _)).mono ?_
    rintro e w1 ⟨A1, c1, rfl, hm1, hb1⟩
    have HP1 := Lib.hid (HP.out w1 A1 c1 hb1 hm1)
    clear hm1 hb1
    go_wp2_with fail
    refine HP1.out.mono ?_
    rintro e w4 ⟨rfl, hz2, hg2⟩
    have HE := Lib.hid (show Puts w p (z / 2 ^ n) _ w4 from ⟨rfl, hz2, hg2⟩)
    clear hz2 hg2
    go_wp2
    go_ret
    exact HE.out
def shf (z k : Int) : Int := if 0 ≤ k then z * 2 ^ k.toNat else z / 2 ^ (-k).toNat
set_option maxHeartbeats 800000 in
theorem shifted {w : World} {q : Nat} {z k : Int} (hz : Z w q z) (h1 : bl z.natAbs ≤ 134217728) (h2 : -134217728 ≤ k) (h3 : k ≤ 134217728) :
    Calls Try.prog 148 #[.pointer (some ⟨q, 0, none⟩), .int .i64 k] w (News w (shf z k)) := by
  by_cases hk : 0 ≤ k
  · have hL := lsh (p := w.heap.size) (n := k.toNat) (Z.new w).blk (hz.below (waq w _)) (by omega) (by omega)
    rw [show ((k.toNat : Nat) : Int) = k by omega] at hL
    have e : shf z k = z * 2 ^ k.toNat := by unfold shf; rw [if_pos hk]
    rw [e]
    clear e
    have HL := Lib.hid hL
    clear hL hz h1
    go_enter Try.func148, Try.ntmps148
    go_wp2_with fail
    refine HL.out.mono ?_
    intro e w1 hp
    have hN := Lib.hid (Mc.Puts.news hp)
    obtain ⟨rfl, hz, hg⟩ := hp
    clear hz hg
    go_wp2
    go_ret
    exact hN.out
  · have hL := rsh (p := w.heap.size) (n := (-k).toNat) (Z.new w).blk (hz.below (waq w _)) (by omega) (by omega)
    rw [show (((-k).toNat : Nat) : Int) = -k by omega] at hL
    have e : shf z k = z / 2 ^ (-k).toNat := by unfold shf; rw [if_neg hk]
    rw [e]
    clear e
    have HL := Lib.hid hL
    clear hL hz h1
    go_enter Try.func148, Try.ntmps148
    go_wp2_with fail
    refine HL.out.mono ?_
    intro e w1 hp
    have hN := Lib.hid (Mc.Puts.news hp)
    obtain ⟨rfl, hz, hg⟩ := hp
    clear hz hg
    go_wp2
    go_ret
    exact hN.out
end Go.Proofs.Ytdboepiobaehkaa.Mk
end
section
set_option linter.unusedVariables false
set_option linter.unusedSimpArgs false
namespace Go.Proofs.Ytdboepiobaehkaa.Ml
open Go.RowKit Go.Proofs.YtdboepiobaehkaaW.PrintWords Go.Proofs.YtdboepiobaehkaaW.PrintLast Go.Proofs.YtdboepiobaehkaaW.PrintMore Go.Proofs.Ytdboepiobaehkaa.PW Go.Proofs.Ytdboepiobaehkaa.Pc Go.Proofs.Ytdboepiobaehkaa.Ma Go.Proofs.Ytdboepiobaehkaa.Mb Go.Proofs.Ytdboepiobaehkaa.Mc Go.Proofs.Ytdboepiobaehkaa.Md Go.Proofs.Ytdboepiobaehkaa.Me Go.Proofs.Ytdboepiobaehkaa.Mi Go.Proofs.Ytdboepiobaehkaa.Mj Go.Proofs.Ytdboepiobaehkaa.Mk Dg
theorem D_and (a b i : Nat) : (D (a &&& b)).getD i 0 = (((a / 4294967296 ^ i % 4294967296) &&& (b / 4294967296 ^ i % 4294967296) : Nat) : Int) := by
  rw [D_getD]
  congr 1
  rw [show (4294967296 : Nat) = 2 ^ 32 from rfl, ← Nat.pow_mul]
  have h1 : (a &&& b) / 2 ^ (32 * i) = a / 2 ^ (32 * i) &&& b / 2 ^ (32 * i) := by
    rw [← Nat.shiftRight_eq_div_pow, ← Nat.shiftRight_eq_div_pow, ← Nat.shiftRight_eq_div_pow, Nat.shiftRight_and_distrib]
  rw [h1, Nat.and_mod_two_pow]
def andl (a b k : Nat) : List Int := (List.range k).map fun j => bits .and .u32 ((D a).getD j 0) ((D b).getD j 0)
theorem andl_len (a b k : Nat) : (andl a b k).length = k := by unfold andl; simp
theorem andl_succ (a b k : Nat) : andl a b (k + 1) = andl a b k ++ [bits .and .u32 ((D a).getD k 0) ((D b).getD k 0)] := by unfold andl; rw [List.range_succ, List.map_append]; rfl
theorem and_digit (a b j : Nat) : bits .and .u32 ((D a).getD j 0) ((D b).getD j 0) = (((a &&& b) / 4294967296 ^ j % 4294967296 : Nat) : Int) := by
  rw [← D_getD, D_and, D_getD, D_getD]
  exact (bits_nat .u32 32 (by decide) Po.wraps_u32 _ _ (Nat.mod_lt _ (by decide)) (Nat.mod_lt _ (by decide))).1
theorem andl_done (a b m : Nat) (hm : (D a).length ≤ m ∨ (D b).length ≤ m) : Dig 4294967296 (andl a b m) ∧ val 4294967296 (andl a b m) = ((a &&& b : Nat) : Int) := by
  have h2 : ∀ j, j < (andl a b m).length → (andl a b m).getD j 0 = (((a &&& b) / 4294967296 ^ j % 4294967296 : Nat) : Int) := by
    intro j hj
    rw [andl_len] at hj
    rw [← and_digit]
    unfold andl
    simp [List.getD, hj]
  constructor
  · exact dig_of_getD fun j hj => by rw [h2 j hj]; have := Nat.mod_lt ((a &&& b) / 4294967296 ^ j) (show 0 < 4294967296 by decide); omega
  · rw [val_digits (by decide) _ (a &&& b) h2, andl_len]
    congr 1
    apply Nat.mod_eq_of_lt
    have e : (4294967296 : Nat) = 2 ^ 32 := rfl
    rw [e, ← Nat.pow_mul]
    rcases hm with h | h
    · refine Nat.lt_of_le_of_lt Nat.and_le_left (Nat.lt_of_lt_of_le (lt_bl a) (Nat.pow_le_pow_right (by decide) ?_))
      have := D_bl a
      omega
    · refine Nat.lt_of_le_of_lt Nat.and_le_right (Nat.lt_of_lt_of_le (lt_bl b) (Nat.pow_le_pow_right (by decide) ?_))
      have := D_bl b
      omega
set_option maxHeartbeats 1600000 in
set_option maxRecDepth 100000 in
theorem andd {w : World} {p q s : Nat} {x y : Int} (hp : Blk w p) (hx : Z w q x) (hy : Z w s y) (h1 : bl x.natAbs ≤ 536870912) (h2 : bl y.natAbs ≤ 536870912) :
    Calls Try.prog 192 #[.pointer (some ⟨p, 0, none⟩), .pointer (some ⟨q, 0, none⟩), .pointer (some ⟨s, 0, none⟩)] w (Puts w p ((x.natAbs &&& y.natAbs : Nat) : Int)) := by
  obtain ⟨A, c, k0, k1, hm, hq⟩ := Z.open hx
  obtain ⟨B, d, j0, j1, hn, hs⟩ := Z.open hy
  have hl1 := D_len x.natAbs
  have hl2 := D_len y.natAbs
  have hca : ∀ (k : Nat) (wr : World), k < (D x.natAbs).length → Below w.heap.size w wr → ∃ ad, A = some ad ∧ wr.cell? (ad.add k) = some (.int .u32 ((D x.natAbs).getD k 0)) := fun k wr hk hb => by
    obtain ⟨ad, hA, hc⟩ := Kd.at_int hm.1 (k : Int) (by omega) (by omega)
    rw [Int.toNat_natCast, rdN] at hc
    exact ⟨ad, hA, (hb.cell (World.block_lt_of_cell? w _ hc)).trans hc⟩
  have hcb : ∀ (k : Nat) (wr : World), k < (D y.natAbs).length → Below w.heap.size w wr → ∃ ad, B = some ad ∧ wr.cell? (ad.add k) = some (.int .u32 ((D y.natAbs).getD k 0)) := fun k wr hk hb => by
    obtain ⟨ad, hA, hc⟩ := Kd.at_int hn.1 (k : Int) (by omega) (by omega)
    rw [Int.toNat_natCast, rdN] at hc
    exact ⟨ad, hA, (hb.cell (World.block_lt_of_cell? w _ hc)).trans hc⟩
  have hcc : ∀ wr, Below w.heap.size w wr → (wr.cell? ⟨q, 1, none⟩ = some (.slice A (D x.natAbs).length c) ∧ wr.cell? ⟨s, 1, none⟩ = some (.slice B (D y.natAbs).length d)) := fun wr hb =>
    ⟨(hb.cell (p := ⟨q, 1, none⟩) hq).trans k1, (hb.cell (p := ⟨s, 1, none⟩) hs).trans j1⟩
  have hfin : ∀ (m : Nat) (v : Value) (wr : World), ((D x.natAbs).length ≤ m ∨ (D y.natAbs).length ≤ m) → m ≤ 536870912 → Kd.R (Kd.int .u32) 120 wr w.heap.size (fun _ => True) v (andl x.natAbs y.natAbs m) → Below w.heap.size w wr →
      Calls Try.prog 182 #[.pointer (some ⟨p, 0, none⟩), .bool false, v] wr (Puts w p ((x.natAbs &&& y.natAbs : Nat) : Int)) := by
    intro m v wr hmm hm2 hR hb
    obtain ⟨A', c', rfl⟩ := Kd.R_slice hR
    have hr := Kd.R_reads' hR
    obtain ⟨hd, hv⟩ := andl_done _ _ _ hmm
    have := put (neg := false) (hp.below hb) (xs := andl x.natAbs y.natAbs m) ⟨hr.2.2, hr.2.1⟩ hd (by rw [andl_len]; omega)
    refine this.mono fun e w' h => ?_
    rw [hv] at h
    exact Mc.Puts.below hb h
  have HF := Lib.hid hfin
  have HCA := Lib.hid hca
  have HCB := Lib.hid hcb
  have HCC := Lib.hid hcc
  clear hfin hca hcb hcc hp hx hy hm hn
  generalize hla : (D x.natAbs).length = la at *
  generalize hlb : (D y.natAbs).length = lb at *
  clear hla hlb
  obtain ⟨m, hm1, hm2, hm3⟩ : ∃ m : Nat, m ≤ la ∧ m ≤ lb ∧ (la ≤ m ∨ lb ≤ m) := ⟨min la lb, by omega, by omega, by omega⟩
  have HM3 := Lib.hid hm3
  have HB := Azq.mk (Below.refl w.heap.size w)
  have Ny0 := Azq.mk (show ([] : List Int) = andl x.natAbs y.natAbs 0 from rfl)
  have hl1' : la ≤ 536870912 := by omega
  have hl2' : lb ≤ 536870912 := by omega
  clear hl1 hl2 h1 h2
  by_cases hlt : la < lb
  · obtain rfl : la = m := by omega
    clear hm1 hm3
    go_enter Try.func192, Try.ntmps192
    go_wp2_with ((with_reducible refine gate_dst (N := 9) rfl ?_); refine Kd.R_lit (Kd.int .u32) _ 120 ?hg (N := 9) ?hd (xs := ([] : List Int)) (inner := []) (ok := fun _ => True) (okp := fun _ => True) ?hr ?hp (fun _ hk => hk) trivial (Below.refl _ _) (Nat.le_refl _) (by simp) ?_; (case hd => rfl); (case hg => rfl); (case hr => first | (go_simp; done) | (go_simp; rfl)); (case hp => exact (Reps.none _ _)); intro v168 w3 ho4 hb hg_ hnew_; clear hg_ hnew_; rw [Ny0.out] at ho4; have n0_ := Azq.mk (Kd.R_lower ho4 (Nat.le_refl _)); have n1_ := Azq.mk hb; clear HB; have HO := n0_; have HB := n1_; obtain ⟨cx, cy⟩ := HCC.out w3 hb; clear n0_ n1_; clear hb ho4)
    go_region
    go_wp2_with fail
    go_loopw [7, 21] (fun v i wr => ∃ k : Nat, i = .int .i64 k ∧ k ≤ la ∧ Azq (Kd.R (Kd.int .u32) 120 wr w.heap.size (fun _ => True) v (andl x.natAbs y.natAbs k)) ∧ Azq (Below w.heap.size w wr)) (fun _ i _ => la - (intOf i).toNat)
    case atStart => exact ⟨0, rfl, by omega, ⟨by (with_reducible repeat (first | apply Kd.R_alloc | apply Kd.R_drewN | apply Kd.R_drew)); exact HO.out⟩, ⟨HB.out.drew⟩⟩
    case round =>
      clear HO HB cx cy
      obtain ⟨k, rfl, hk, HO, HB⟩ := hrel
      obtain ⟨cx, cy⟩ := HCC.out wr HB.out
      by_cases hkm : k < la
      · obtain ⟨ad, hA, ca⟩ := HCA.out k wr (by omega) HB.out
        obtain ⟨bd, hB, cb⟩ := HCB.out k wr (by omega) HB.out
        subst hA
        subst hB
        have HS := Azq.mk (andl_succ x.natAbs y.natAbs k).symm
        have HLN := Azq.mk (show ((andl x.natAbs y.natAbs k).length + 1) * 4 ≤ 140737488355328 by rw [andl_len]; omega)
        have hka : (k : Int) < (la : Int) := by omega
        have hkb : (k : Int) < (lb : Int) := by omega
        generalize (D x.natAbs).getD k 0 = u at *
        generalize (D y.natAbs).getD k 0 = v at *
        go_wp2_with fail
        go_region_law (refine Kd.R_append_step (Kd.int .u32) (w0 := w) w.heap.size (by rfl) (.tmp 24) (.tmp 40) 109 120 (.int .u32 0) 4 rfl Try.underlying109 infoU rfl (by decide) (by omega) _ (andl x.natAbs y.natAbs k) (bits .and .u32 u v) [.int .u32 (bits .and .u32 u v)] (fun _ => True) (fun _ => False) rfl rfl rfl (fun _ hk => hk.elim) (fun _ _ => trivial) (Kd.R_drew HO.out) HB.out.drew HB.out.size HLN.out ?_; intro v1 w1 ho hb hg hat; rw [HS.out] at ho; have HO1 := Azq.mk ho; have HB1 := Azq.mk hb; clear ho hb hg hat HO HB)
        all_goals go_wp2
        all_goals go_roundw
        all_goals first | exact ⟨k + 1, by go_num, by omega, HO1, HB1⟩ | ((simp [intOf]) <;> omega)
      · obtain rfl : la = k := by omega
        have HC := Lib.hid (HF.out la _ wr HM3.out (by omega) HO.out HB.out)
        clear HO HB
        go_wp2_with (go_at_call 182; refine HC.out.mono ?_; rintro e w2 ⟨rfl, hz2, hg2⟩; have HE := Lib.hid (show Puts w p ((x.natAbs &&& y.natAbs : Nat) : Int) _ w2 from ⟨rfl, hz2, hg2⟩); clear hz2 hg2)
        go_ret
        exact HE.out
  · by_cases hlt2 : lb < la
    · obtain rfl : lb = m := by omega
      clear hm1 hm3
      go_enter Try.func192, Try.ntmps192
      go_wp2_with ((with_reducible refine gate_dst (N := 9) rfl ?_); refine Kd.R_lit (Kd.int .u32) _ 120 ?hg (N := 9) ?hd (xs := ([] : List Int)) (inner := []) (ok := fun _ => True) (okp := fun _ => True) ?hr ?hp (fun _ hk => hk) trivial (Below.refl _ _) (Nat.le_refl _) (by simp) ?_; (case hd => rfl); (case hg => rfl); (case hr => first | (go_simp; done) | (go_simp; rfl)); (case hp => exact (Reps.none _ _)); intro v168 w3 ho4 hb hg_ hnew_; clear hg_ hnew_; rw [Ny0.out] at ho4; have n0_ := Azq.mk (Kd.R_lower ho4 (Nat.le_refl _)); have n1_ := Azq.mk hb; clear HB; have HO := n0_; have HB := n1_; obtain ⟨cx, cy⟩ := HCC.out w3 hb; clear n0_ n1_; clear hb ho4)
      go_region
      go_wp2_with fail
      go_loopw [7, 21] (fun v i wr => ∃ k : Nat, i = .int .i64 k ∧ k ≤ lb ∧ Azq (Kd.R (Kd.int .u32) 120 wr w.heap.size (fun _ => True) v (andl x.natAbs y.natAbs k)) ∧ Azq (Below w.heap.size w wr)) (fun _ i _ => lb - (intOf i).toNat)
      case atStart => exact ⟨0, rfl, by omega, ⟨by (with_reducible repeat (first | apply Kd.R_alloc | apply Kd.R_drewN | apply Kd.R_drew)); exact HO.out⟩, ⟨HB.out.drew⟩⟩
      case round =>
        clear HO HB cx cy
        obtain ⟨k, rfl, hk, HO, HB⟩ := hrel
        obtain ⟨cx, cy⟩ := HCC.out wr HB.out
        by_cases hkm : k < lb
        · obtain ⟨ad, hA, ca⟩ := HCA.out k wr (by omega) HB.out
          obtain ⟨bd, hB, cb⟩ := HCB.out k wr (by omega) HB.out
          subst hA
          subst hB
          have HS := Azq.mk (andl_succ x.natAbs y.natAbs k).symm
          have HLN := Azq.mk (show ((andl x.natAbs y.natAbs k).length + 1) * 4 ≤ 140737488355328 by rw [andl_len]; omega)
          have hka : (k : Int) < (la : Int) := by omega
          have hkb : (k : Int) < (lb : Int) := by omega
          generalize (D x.natAbs).getD k 0 = u at *
          generalize (D y.natAbs).getD k 0 = v at *
          go_wp2_with fail
          go_region_law (refine Kd.R_append_step (Kd.int .u32) (w0 := w) w.heap.size (by rfl) (.tmp 24) (.tmp 40) 109 120 (.int .u32 0) 4 rfl Try.underlying109 infoU rfl (by decide) (by omega) _ (andl x.natAbs y.natAbs k) (bits .and .u32 u v) [.int .u32 (bits .and .u32 u v)] (fun _ => True) (fun _ => False) rfl rfl rfl (fun _ hk => hk.elim) (fun _ _ => trivial) (Kd.R_drew HO.out) HB.out.drew HB.out.size HLN.out ?_; intro v1 w1 ho hb hg hat; rw [HS.out] at ho; have HO1 := Azq.mk ho; have HB1 := Azq.mk hb; clear ho hb hg hat HO HB)
          all_goals go_wp2
          all_goals go_roundw
          all_goals first | exact ⟨k + 1, by go_num, by omega, HO1, HB1⟩ | ((simp [intOf]) <;> omega)
        · obtain rfl : lb = k := by omega
          have HC := Lib.hid (HF.out lb _ wr HM3.out (by omega) HO.out HB.out)
          clear HO HB
          go_wp2_with (go_at_call 182; refine HC.out.mono ?_; rintro e w2 ⟨rfl, hz2, hg2⟩; have HE := Lib.hid (show Puts w p ((x.natAbs &&& y.natAbs : Nat) : Int) _ w2 from ⟨rfl, hz2, hg2⟩); clear hz2 hg2)
          go_ret
          exact HE.out

    · obtain rfl : la = lb := by omega
      obtain rfl : la = m := by omega
      clear hm1 hm3
      go_enter Try.func192, Try.ntmps192
      go_wp2_with ((with_reducible refine gate_dst (N := 9) rfl ?_); refine Kd.R_lit (Kd.int .u32) _ 120 ?hg (N := 9) ?hd (xs := ([] : List Int)) (inner := []) (ok := fun _ => True) (okp := fun _ => True) ?hr ?hp (fun _ hk => hk) trivial (Below.refl _ _) (Nat.le_refl _) (by simp) ?_; (case hd => rfl); (case hg => rfl); (case hr => first | (go_simp; done) | (go_simp; rfl)); (case hp => exact (Reps.none _ _)); intro v168 w3 ho4 hb hg_ hnew_; clear hg_ hnew_; rw [Ny0.out] at ho4; have n0_ := Azq.mk (Kd.R_lower ho4 (Nat.le_refl _)); have n1_ := Azq.mk hb; clear HB; have HO := n0_; have HB := n1_; obtain ⟨cx, cy⟩ := HCC.out w3 hb; clear n0_ n1_; clear hb ho4)
      go_region
      go_wp2_with fail
      go_loopw [7, 21] (fun v i wr => ∃ k : Nat, i = .int .i64 k ∧ k ≤ la ∧ Azq (Kd.R (Kd.int .u32) 120 wr w.heap.size (fun _ => True) v (andl x.natAbs y.natAbs k)) ∧ Azq (Below w.heap.size w wr)) (fun _ i _ => la - (intOf i).toNat)
      case atStart => exact ⟨0, rfl, by omega, ⟨by (with_reducible repeat (first | apply Kd.R_alloc | apply Kd.R_drewN | apply Kd.R_drew)); exact HO.out⟩, ⟨HB.out.drew⟩⟩
      case round =>
        clear HO HB cx cy
        obtain ⟨k, rfl, hk, HO, HB⟩ := hrel
        obtain ⟨cx, cy⟩ := HCC.out wr HB.out
        by_cases hkm : k < la
        · obtain ⟨ad, hA, ca⟩ := HCA.out k wr (by omega) HB.out
          obtain ⟨bd, hB, cb⟩ := HCB.out k wr (by omega) HB.out
          subst hA
          subst hB
          have HS := Azq.mk (andl_succ x.natAbs y.natAbs k).symm
          have HLN := Azq.mk (show ((andl x.natAbs y.natAbs k).length + 1) * 4 ≤ 140737488355328 by rw [andl_len]; omega)
          have hka : (k : Int) < (la : Int) := by omega
          have hkb : (k : Int) < (la : Int) := by omega
          generalize (D x.natAbs).getD k 0 = u at *
          generalize (D y.natAbs).getD k 0 = v at *
          go_wp2_with fail
          go_region_law (refine Kd.R_append_step (Kd.int .u32) (w0 := w) w.heap.size (by rfl) (.tmp 24) (.tmp 40) 109 120 (.int .u32 0) 4 rfl Try.underlying109 infoU rfl (by decide) (by omega) _ (andl x.natAbs y.natAbs k) (bits .and .u32 u v) [.int .u32 (bits .and .u32 u v)] (fun _ => True) (fun _ => False) rfl rfl rfl (fun _ hk => hk.elim) (fun _ _ => trivial) (Kd.R_drew HO.out) HB.out.drew HB.out.size HLN.out ?_; intro v1 w1 ho hb hg hat; rw [HS.out] at ho; have HO1 := Azq.mk ho; have HB1 := Azq.mk hb; clear ho hb hg hat HO HB)
          all_goals go_wp2
          all_goals go_roundw
          all_goals first | exact ⟨k + 1, by go_num, by omega, HO1, HB1⟩ | ((simp [intOf]) <;> omega)
        · obtain rfl : la = k := by omega
          have HC := Lib.hid (HF.out la _ wr HM3.out (by omega) HO.out HB.out)
          clear HO HB
          go_wp2_with (go_at_call 182; refine HC.out.mono ?_; rintro e w2 ⟨rfl, hz2, hg2⟩; have HE := Lib.hid (show Puts w p ((x.natAbs &&& y.natAbs : Nat) : Int) _ w2 from ⟨rfl, hz2, hg2⟩); clear hz2 hg2)
          go_ret
          exact HE.out
end Go.Proofs.Ytdboepiobaehkaa.Ml
end
section
set_option linter.unusedVariables false
set_option linter.unusedSimpArgs false
namespace Go.Proofs.Ytdboepiobaehkaa.Mn
open Go.RowKit Go.Proofs.YtdboepiobaehkaaW.PrintWords Go.Proofs.YtdboepiobaehkaaW.PrintLast Go.Proofs.YtdboepiobaehkaaW.PrintMore Go.Proofs.Ytdboepiobaehkaa.PW Go.Proofs.Ytdboepiobaehkaa.Pc Go.Proofs.Ytdboepiobaehkaa.Ma Go.Proofs.Ytdboepiobaehkaa.Mb Go.Proofs.Ytdboepiobaehkaa.Mc Go.Proofs.Ytdboepiobaehkaa.Md Go.Proofs.Ytdboepiobaehkaa.Me Go.Proofs.Ytdboepiobaehkaa.Mi Go.Proofs.Ytdboepiobaehkaa.Mj Go.Proofs.Ytdboepiobaehkaa.Mk Go.Proofs.Ytdboepiobaehkaa.Ml Dg
open Pm (sgn)
theorem infoI : (Try.prog.info? 2).map (fun i => (i.zero, i.size, i.bytes)) = some (some (.int .i64 0), 1, 8) := by kernel_rfl
theorem sizeW : (Try.prog.info? 29).map (·.size) = some 2 := by kernel_rfl
def GivesW (w : World) (s : Int) (l : List Int) (b : Bool) (e : Ending) (w' : World) : Prop :=
  ∃ u, e = .returned (.tuple #[.agg #[.int .i64 s, u], .bool b]) ∧ Kd.R (Kd.int .i64) 2 w' w.heap.size (fun _ => True) u l ∧ Below w.heap.size w w'
set_option maxHeartbeats 1600000 in
theorem fromBig_no {w : World} {q : Nat} {z : Int} (hz : Z w q z) (h1 : bl z.natAbs ≤ 268435456) (h2 : ¬ bl z.natAbs ≤ 2400) :
    Calls Try.prog 139 #[.pointer (some ⟨q, 0, none⟩)] w (GivesW w 0 [] false) := by
  have hB := Me.bitLen (hz.below (waq w (.cells #[.int .i64 0, .slice none 0 0] 29))) (by omega)
  have HB := Lib.hid hB
  have hgt : (2400 : Int) < ((bl z.natAbs : Nat) : Int) := by omega
  clear hB hz h1 h2
  generalize bl z.natAbs = b at *
  go_enter Try.func139, Try.ntmps139
  go_wp2_with fail
  refine HB.out.mono ?_
  rintro e w1 ⟨rfl, n, rfl⟩
  go_wp2
  have hbox : ((w.alloc (.cells #[.int .i64 0, .slice none 0 0] 29)).drewN n).heap[w.heap.size]? = some (.cells #[.int .i64 0, .slice none 0 0] 29 (0, 0)) := ((Me.below_drawn n).block w.heap.size (by simp)).trans (heap_alloc_new w _)
  have hb : Below w.heap.size w ((w.alloc (.cells #[.int .i64 0, .slice none 0 0] 29)).drewN n) := below_then (waq w _) (Me.below_drawn n)
  exact bodyPost_ret (results_ct rfl _ _ w.heap.size 29 #[.int .i64 0, .slice none 0 0] (0, 0) _ rfl (blk_set (blk_set hbox 0 _) 1 _) Try.underlying29 rfl sizeW) rfl ⟨_, rfl, Kd.R_nil _ _ _ _ _, (hb.setCell (Nat.le_refl _) _).setCell (Nat.le_refl _) _⟩
def ZF (w : World) (p : Nat) (z : Int) (v : Value) : Prop :=
  ∃ A c, w.heap[p]? = some (.cells #[.bool (decide (z < 0)), .slice A (D z.natAbs).length c] 111 (0, 0)) ∧ Mg w A c (D z.natAbs) ∧ ∀ ad, A = some ad → 0 < (D z.natAbs).length → some ad.block ≠ v.ownBlock
section
variable {w w1 : World} {p : Nat} {n : Int} {v v1 : Value}
theorem ZF.zz (h : ZF w p n v) : Z w p n := by
  obtain ⟨A, c, hb, hm, _⟩ := h
  exact ⟨A, c, hb, hm⟩
theorem ZF.of (h : Z w p n) : ZF w p n (.slice none 0 0) := by
  obtain ⟨A, c, hb, hm⟩ := h
  exact ⟨A, c, hb, hm, fun ad _ _ e => by simp [Value.ownBlock] at e⟩
theorem ZF.below (h : ZF w p n v) (hb : Below w.heap.size w w1) : ZF w1 p n v := by
  obtain ⟨A, c, h1, hm, hv⟩ := h
  exact ⟨A, c, (hb.block p (Array.getElem?_eq_some_iff.1 h1).1).trans h1, hm.below hb, hv⟩
theorem ZF.grown {q : Nat} (h : ZF w p n v) (hg : w.grownBy w1 (some q)) (hq : Blk w q) (hne : p ≠ q) : ZF w1 p n v := by
  obtain ⟨A, c, hb, hm, hv⟩ := h
  exact ⟨A, c, (hg.block p (Array.getElem?_eq_some_iff.1 hb).1 (by simpa using hne)).trans hb, hm.grown hg hq, hv⟩
theorem add_block (a : Addr) (k : Nat) : (a.add k).block = a.block := by
  unfold Addr.add
  split <;> rfl
theorem Mg.kept_at {A : Option Addr} {c : Nat} {xs : List Int} (h : Mg w A c xs) (hk : ∀ ad, A = some ad → 0 < xs.length → w1.heap[ad.block]? = w.heap[ad.block]?) : Mg w1 A c xs := by
  refine ⟨?_, h.2⟩
  obtain ⟨h1, h2, h3⟩ := h.1
  refine ⟨h1, h2, fun hn => ?_⟩
  obtain ⟨ad, hA, hc⟩ := h3 hn
  refine ⟨ad, hA, fun j p hp => ?_⟩
  obtain ⟨cs, hs, hR, hcell⟩ := hc j p hp
  refine ⟨cs, hs, hR, fun i u hu => ?_⟩
  rw [← hcell i u hu]
  exact World.cell?_of_block (w := w) (w' := w1) (a := ad.add (j * (Kd.int IntKind.u32).sz + i)) (by rw [add_block]; exact hk ad hA hn)
theorem Mg.lt {A : Option Addr} {c : Nat} {xs : List Int} (h : Mg w A c xs) (ad : Addr) (hA : A = some ad) (hn : 0 < xs.length) : ad.block < w.heap.size := by
  subst hA
  exact Kd.C_lt h.1 hn (by decide)
theorem ZF.after (h : ZF w p n v) (hpv : some p ≠ v.ownBlock) (hg : w.grownBy w1 v.ownBlock) (hat : v1.ownBlock = v.ownBlock ∨ ∃ b, v1.ownBlock = some b ∧ w.heap.size ≤ b) : ZF w1 p n v1 := by
  obtain ⟨A, c, hb, hm, hv⟩ := h
  refine ⟨A, c, (hg.block p (Array.getElem?_eq_some_iff.1 hb).1 hpv).trans hb, Mg.kept_at hm fun ad hA hn => hg.block _ (Mn.Mg.lt hm ad hA hn) (hv ad hA hn), fun ad hA hn => ?_⟩
  rcases hat with e | ⟨b, e, hle⟩
  · rw [e]; exact hv ad hA hn
  · rw [e]
    intro e2
    injection e2 with e2
    have := Mn.Mg.lt hm ad hA hn
    omega
theorem ZF.store {gw : Nat} {cs : Array Value} (h : ZF w p n v) (hw : w.heap[gw]? = some (.cells cs 29 (0, 0))) (hc : cs.size = 2) (h0 : ∀ x, cs[0]? ≠ some (.int .u32 x)) (h1 : ∀ x, cs[1]? ≠ some (.int .u32 x)) (i : Nat) (u : Value) : ZF (w.setCell ⟨gw, i, none⟩ u) p n v := by
  obtain ⟨A, c, hb, hm, hv⟩ := h
  have hne : p ≠ gw := by
    rintro rfl
    rw [hb] at hw
    injection hw with hw
    injection hw with _ hw
    exact absurd hw (by decide)
  refine ⟨A, c, (Below.heap_setCell _ _ _ _ hne).trans hb, Mg.kept_at hm fun ad hA hn => Below.heap_setCell _ _ _ _ ?_, hv⟩
  intro e
  have e : ad.block = gw := e
  obtain ⟨ad', hA', hc'⟩ := hm.1.2.2 hn
  rw [hA] at hA'
  injection hA' with hA'
  subst hA'
  obtain ⟨cs', hs, hR, hcell⟩ := hc' 0 _ (List.getElem?_eq_getElem hn)
  have hR' : cs' = [.int .u32 (D n.natAbs)[0]] := hR
  subst hR'
  have h4 := hcell 0 _ rfl
  rw [← e] at hw
  simp only [World.cell?, add_block, hw] at h4
  split at h4
  · cases h4
  · generalize (ad.add (0 * (Kd.int IntKind.u32).sz + 0)).off = o at h4
    match o, h4 with
    | 0, h4 => exact h0 _ h4
    | 1, h4 => exact h1 _ h4
    | n + 2, h4 =>
      rw [Array.getElem?_eq_none (by omega)] at h4
      cases h4
end
def GivesMgF (N : Nat) (w : World) (n : Nat) (e : Ending) (w' : World) : Prop :=
  ∃ A c, e = .returned (.slice A (D n).length c) ∧ Mg w' A c (D n) ∧ (∀ ad, A = some ad → 0 < (D n).length → N ≤ ad.block) ∧ Below w.heap.size w w'
def PutsF (N : Nat) (w : World) (p : Nat) (z : Int) (e : Ending) (w' : World) : Prop :=
  Puts w p z e w' ∧ ∀ A n c, w'.cell? ⟨p, 1, none⟩ = some (.slice A n c) → ∀ ad, A = some ad → 0 < n → N ≤ ad.block
theorem fresh_of {w w' : World} {N : Nat} {e : Ending} {v : Value} {n : Nat} {b : Nat} {t : Nat} (he : e = .returned v) (h : Kd.V (Kd.int .u32) t w' b (fun k => N ≤ k) v (D n)) (hb : Below w.heap.size w w') : GivesMgF N w n e w' := by
  obtain ⟨A, c, rfl, hm⟩ := Mg.of_V h
  exact ⟨A, c, he, hm, fun ad hA hn => Kd.F_in (Kd.V_F h) hA hn (by decide), hb⟩
theorem V_of_fresh {w : World} {N : Nat} {A : Option Addr} {c : Nat} {xs : List Int} (h : Mg w A c xs) (hA : ∀ ad, A = some ad → 0 < xs.length → N ≤ ad.block) : Kd.V (Kd.int .u32) 120 w w.heap.size (fun k => N ≤ k) (.slice A xs.length c) xs := by
  refine Kd.V_mk h.2 ?_
  intro W' hW
  exact (Mn.Mg.kept_at (w1 := W') h fun ad hA' hn => hW _ (hA ad hA' hn) (Mn.Mg.lt h ad hA' hn)).1
theorem cRightF {w : World} {A : Option Addr} {c a n : Nat} (ha : Mg w A c (D a)) (h1 : bl a ≤ 536870912) (h2 : n ≤ 536870912) :
    Calls Try.prog 210 #[.slice A (D a).length c, .int .u64 n] w (GivesMgF w.heap.size w (a / 2 ^ n)) := by
  obtain ⟨k, hk⟩ := (Po.right a n h1 h2).rounds
  refine (impl_magRight.calls k A c _ _ _ w ha.1 ha.2 hk).mono ?_
  rintro e w' ⟨v, he, hv, hbl⟩
  exact fresh_of he hv hbl
theorem cTrimF {w : World} {N : Nat} {A : Option Addr} {c n : Nat} (h : Mg w A c (D n)) (hA : ∀ ad, A = some ad → 0 < (D n).length → N ≤ ad.block) (hN : N ≤ w.heap.size) (hl : bl n ≤ 1099511627776) :
    Calls Try.prog 215 #[.slice A (D n).length c] w (GivesMgF N w n) := by
  have hl2 := D_len n
  obtain ⟨k, hk⟩ := (Pm.trim _ (D n) rfl (D_dig n) (by omega)).rounds
  rw [D_val, Int.toNat_natCast] at hk
  refine (impl_magTrim.calls k (fun k => N ≤ k) A c (D n) _ w (V_of_fresh h hA) hk).mono ?_
  rintro e w' ⟨v, he, hv, hb⟩
  exact fresh_of he (Kd.V_mono hv (fun k hk => hk.elim id (fun h => Nat.le_trans hN h))) hb
set_option maxHeartbeats 400000 in
theorem putF {w W : World} {p n N : Nat} {A : Option Addr} {c : Nat} (hp : Blk w p) (hb : Below w.heap.size w W) (hN : N ≤ w.heap.size) (hm : Mg W A c (D n)) (hA : ∀ ad, A = some ad → 0 < (D n).length → N ≤ ad.block) (hl : bl n ≤ 1099511627776) :
    Calls Try.prog 182 #[.pointer (some ⟨p, 0, none⟩), .bool false, .slice A (D n).length c] W (PutsF N w p (n : Int)) := by
  have hT := cTrimF hm hA (Nat.le_trans hN hb.size) hl
  obtain ⟨b, B, m, d, hbx⟩ := hp
  have hlt : p < w.heap.size := (Array.getElem?_eq_some_iff.1 hbx).1
  have HB := Lib.hid hbx
  have HT := Lib.hid hT
  have HBW := Lib.hid hb
  clear hT hbx hm hA hl hb
  have hE : ∀ w1 : World, Below w.heap.size w w1 → (w1.cell? ⟨p, 0, none⟩ = some (.bool b) ∧ w1.cell? ⟨p, 1, none⟩ = some (.slice B m d) ∧ w1.frozen? ⟨p, 0, none⟩ = false ∧ w1.frozen? ⟨p, 1, none⟩ = false) := fun w1 h => by
    have h1 := (h.block p hlt).trans HB.out
    exact ⟨kcq h1 0, kcq h1 1, kfq h1 0, kfq h1 1⟩
  have HE := Lib.hid hE
  clear hE
  have hgoal : ∀ (w1 : World) (A' : Option Addr) (c' : Nat), Below w.heap.size w w1 → Mg w1 A' c' (D n) → (∀ ad, A' = some ad → 0 < (D n).length → N ≤ ad.block) → PutsF N w p (n : Int) (.returned (.pointer (some ⟨p, 0, none⟩))) ((w1.setCell ⟨p, 1, none⟩ (.slice A' (D n).length c')).setCell ⟨p, 0, none⟩ (.bool false)) := by
    intro w1 A' c' hbl hmg hA'
    have h1 := puts_of (z := (n : Int)) (A := A') (c := c') (neg := false) HB.out hbl (by simpa using hmg) (by simp)
    refine ⟨h1, ?_⟩
    have h2 := blk_set (blk_set ((hbl.block p hlt).trans HB.out) 1 (.slice A' (D n).length c')) 0 (.bool false)
    have h3 := kcq h2 1
    intro A2 n2 c2 he ad hA2 hn
    rw [h3] at he
    injection he with he
    simp at he
    obtain ⟨rfl, rfl, rfl⟩ := he
    exact hA' ad hA2 hn
  have HG := Lib.hid hgoal
  clear hgoal
  go_enter Try.func182, Try.ntmps182
  go_wp2_with fail
  refine HT.out.mono ?_
  rintro e w1 ⟨A', c', rfl, hmg, hA', hbl⟩
  obtain ⟨k0, k1, f0, f1⟩ := HE.out w1 (below_then HBW.out hbl)
  have h2 := Lib.hid (HG.out w1 A' c' (below_then HBW.out hbl) hmg hA')
  clear hmg hbl hA' HB HBW
  go_wp2
  go_ret
  exact h2.out
set_option maxHeartbeats 800000 in
theorem rshF {w : World} {p m n : Nat} (hz : Z w p (m : Int)) (h1 : bl m ≤ 268435456) (h2 : n ≤ 268435456) :
    Calls Try.prog 170 #[.pointer (some ⟨p, 0, none⟩), .pointer (some ⟨p, 0, none⟩), .int .u64 n] w (PutsF w.heap.size w p ((m / 2 ^ n : Nat) : Int)) := by
  have hp := hz.blk
  obtain ⟨A, c, k0, k1, hm, hq⟩ := Z.open hz
  rw [Int.natAbs_natCast] at k1 hm
  rw [show decide ((m : Int) < 0) = false by simp] at k0
  have b2 := bl_mono (Nat.div_le_self m (2 ^ n))
  have hR := cRightF hm (n := n) (by omega) (by omega)
  have hP := fun (w1 : World) (A' : Option Addr) (c' : Nat) h1 h2 h3 => putF (W := w1) (A := A') (c := c') (n := m / 2 ^ n) hp h1 (Nat.le_refl _) h2 h3 (by omega)
  have HR := Lib.hid hR
  have HP := Lib.hid hP
  clear hR hP b2 h1 h2 hm hp hz
  go_enter Try.func170, Try.ntmps170
  go_wp2_with fail
  refine HR.out.mono ?_
  rintro e w1 ⟨A1, c1, rfl, hm1, hA1, hb1⟩
  have HP1 := Lib.hid (HP.out w1 A1 c1 hb1 hm1 hA1)
  clear hm1 hb1 hA1
  go_wp2_with fail
  refine HP1.out.mono ?_
  rintro e w4 hz2
  have HE := Lib.hid hz2
  obtain ⟨⟨rfl, hz3, hg3⟩, h4⟩ := hz2
  clear hz3 hg3 h4
  go_wp2
  go_ret
  exact HE.out
def St (w wr : World) (gw gr gm : Nat) (s : Int) (m k : Nat) (v : Value) (pre : List Int) : Prop :=
  wr.heap[gw]? = some (.cells #[.int .i64 s, v] 29 (0, 0)) ∧ Kd.R (Kd.int .i64) 2 wr w.heap.size (fun _ => True) v pre ∧ ZF wr gr (k : Int) v ∧ ZF wr gm 16777215 v ∧ Below w.heap.size w wr ∧ pre ++ L k = L m
section
variable {w wr w1 : World} {gw gr gm m k : Nat} {s : Int} {v v1 : Value} {pre : List Int}
theorem St.cell (h : St w wr gw gr gm s m k v pre) : wr.cell? ⟨gw, 1, none⟩ = some v := kcq h.1 1
theorem St.lt (h : St w wr gw gr gm s m k v pre) : gw < wr.heap.size := by
  have := h.1
  rw [Array.getElem?_eq_some_iff] at this
  exact this.1
theorem St.below (h : St w wr gw gr gm s m k v pre) (hb : Below wr.heap.size wr w1) : St w w1 gw gr gm s m k v pre :=
  ⟨(hb.block gw h.lt).trans h.1, Kd.R_below h.2.1 hb, h.2.2.1.below hb, h.2.2.2.1.below hb, below_then h.2.2.2.2.1 hb, h.2.2.2.2.2⟩
theorem ne_types {g p : Nat} {cs : Array Value} {t : TypeId} (h : wr.heap[g]? = some (.cells cs t (0, 0))) (hp : Blk wr p) (ht : t ≠ 111) : g ≠ p := by
  rintro rfl
  obtain ⟨b, A, n, c, hc⟩ := hp
  rw [h] at hc
  injection hc with hc
  injection hc with _ hc
  exact ht hc
theorem St.other {p : Nat} (h : St w wr gw gr gm s m k v pre) (hp : Blk wr p) (h1 : gr ≠ p) (h2 : gm ≠ p) (hN : w.heap.size ≤ p) (hg : wr.grownBy w1 (some p)) : St w w1 gw gr gm s m k v pre := by
  refine ⟨(hg.block gw h.lt (by have := ne_types h.1 hp (by decide); simpa using this)).trans h.1, ?_, h.2.2.1.grown hg hp h1, h.2.2.2.1.grown hg hp h2, below_grown h.2.2.2.2.1 hg hN, h.2.2.2.2.2⟩
  obtain ⟨b, A, n, c, hc⟩ := hp
  exact Kd.R_mono (Kd.R_grown (Kd.R_types h.2.1 hc (by decide)) hg (fun k hk => by have := hk.2; simpa using this)) (fun _ hk => hk.1)
theorem St.rest {k' : Nat} {e : Ending} (h : St w wr gw gr gm s m k v pre) (hp : PutsF wr.heap.size wr gr (k' : Int) e w1) (hne : gm ≠ gr) (hgr : w.heap.size ≤ gr) (he : pre ++ L k' = L m) : St w w1 gw gr gm s m k' v pre := by
  obtain ⟨⟨_, hz, hg⟩, hf⟩ := hp
  have hb := h.2.2.1.zz.blk
  refine ⟨(hg.block gw h.lt (by have := ne_types h.1 hb (by decide); simpa using this)).trans h.1, ?_, ?_, h.2.2.2.1.grown hg hb hne, below_grown h.2.2.2.2.1 hg hgr, he⟩
  · obtain ⟨b, A, n, c, hc⟩ := hb
    exact Kd.R_mono (Kd.R_grown (Kd.R_types h.2.1 hc (by decide)) hg (fun k hk => by have := hk.2; simpa using this)) (fun _ hk => hk.1)
  · obtain ⟨A, c, hzb, hm⟩ := hz
    refine ⟨A, c, hzb, hm, fun ad hA hn ho => ?_⟩
    have h1 := hf _ _ _ (kcq hzb 1) ad hA hn
    have h2 := Kd.R_lt h.2.1 _ ho.symm
    omega
theorem St.put {wr1 : World} {p : Int} {k' : Nat} (h : St w wr gw gr gm s m k v pre) (ho : Kd.R (Kd.int .i64) 2 wr1 w.heap.size (fun _ => True) v1 (pre ++ [p])) (hg : wr.grownBy wr1 v.ownBlock) (hat : v1.ownBlock = v.ownBlock ∨ ∃ b, v1.ownBlock = some b ∧ wr.heap.size ≤ b) (hb : Below w.heap.size w wr1) (hgw : w.heap.size ≤ gw) :
    wr1.frozen? ⟨gw, 1, none⟩ = false ∧ (wr1.setCell ⟨gw, 1, none⟩ v1).heap[gw]? = some (.cells #[.int .i64 s, v1] 29 (0, 0)) ∧ Kd.R (Kd.int .i64) 2 (wr1.setCell ⟨gw, 1, none⟩ v1) w.heap.size (fun _ => True) v1 (pre ++ [p]) ∧ ZF (wr1.setCell ⟨gw, 1, none⟩ v1) gr (k : Int) v1 ∧ ZF (wr1.setCell ⟨gw, 1, none⟩ v1) gm 16777215 v1 ∧ Below w.heap.size w (wr1.setCell ⟨gw, 1, none⟩ v1) := by
  have hgw1 : wr1.heap[gw]? = some (.cells #[.int .i64 s, v] 29 (0, 0)) := (hg.block gw h.lt (Kd.R_ne h.2.1 h.1 (by decide))).trans h.1
  obtain ⟨A, c, hv⟩ := Kd.R_slice h.2.1
  refine ⟨kfq hgw1 1, blk_set hgw1 1 v1, Kd.R_set ho hgw1 (by decide) 1 v1, ?_, ?_, hb.setCell hgw _⟩
  · obtain ⟨b, B, n, d, hc⟩ := h.2.2.1.zz.blk
    exact (h.2.2.1.after (Kd.R_ne h.2.1 hc (by decide)) hg hat).store hgw1 rfl (by simp) (by subst hv; simp) 1 v1
  · obtain ⟨b, B, n, d, hc⟩ := h.2.2.2.1.zz.blk
    exact (h.2.2.2.1.after (Kd.R_ne h.2.1 hc (by decide)) hg hat).store hgw1 rfl (by simp) (by subst hv; simp) 1 v1
def Sr (w wr : World) (gw gr gm : Nat) (s : Int) (m k : Nat) (v : Value) (pre : List Int) : Prop :=
  St w wr gw gr gm s m k v pre ∧ wr.heap[w.heap.size]? = some (.cells #[.int .i64 0, .slice none 0 0] 29 (0, 0))
theorem Sr.lt (h : Sr w wr gw gr gm s m k v pre) : w.heap.size < wr.heap.size := (Array.getElem?_eq_some_iff.1 h.2).1
theorem Sr.below (h : Sr w wr gw gr gm s m k v pre) (hb : Below wr.heap.size wr w1) : Sr w w1 gw gr gm s m k v pre :=
  ⟨h.1.below hb, (hb.block _ h.lt).trans h.2⟩
theorem Sr.other {p : Nat} (h : Sr w wr gw gr gm s m k v pre) (hp : Blk wr p) (h1 : gr ≠ p) (h2 : gm ≠ p) (hN : w.heap.size < p) (hg : wr.grownBy w1 (some p)) : Sr w w1 gw gr gm s m k v pre :=
  ⟨h.1.other hp h1 h2 (by omega) hg, (hg.block _ h.lt (by simp; omega)).trans h.2⟩
theorem Sr.rest {k' : Nat} {e : Ending} (h : Sr w wr gw gr gm s m k v pre) (hp : PutsF wr.heap.size wr gr (k' : Int) e w1) (hne : gm ≠ gr) (hgr : w.heap.size < gr) (he : pre ++ L k' = L m) : Sr w w1 gw gr gm s m k' v pre :=
  ⟨h.1.rest hp hne (by omega) he, (hp.1.2.2.block _ h.lt (by simp; omega)).trans h.2⟩
def Sm (w wr : World) (gw gr gm : Nat) (s : Int) (k : Nat) (v : Value) (pre : List Int) : Prop :=
  wr.heap[gw]? = some (.cells #[.int .i64 s, v] 29 (0, 0)) ∧ Kd.R (Kd.int .i64) 2 wr w.heap.size (fun _ => True) v pre ∧ ZF wr gr (k : Int) v ∧ ZF wr gm 16777215 v ∧ Below w.heap.size w wr ∧ wr.heap[w.heap.size]? = some (.cells #[.int .i64 0, .slice none 0 0] 29 (0, 0))
theorem Sr.put {wr1 : World} {p : Int} (h : Sr w wr gw gr gm s m k v pre) (ho : Kd.R (Kd.int .i64) 2 wr1 w.heap.size (fun _ => True) v1 (pre ++ [p])) (hg : wr.grownBy wr1 v.ownBlock) (hat : v1.ownBlock = v.ownBlock ∨ ∃ b, v1.ownBlock = some b ∧ wr.heap.size ≤ b) (hb : Below w.heap.size w wr1) (hgw : w.heap.size < gw) :
    wr1.frozen? ⟨gw, 1, none⟩ = false ∧ (∃ u, wr1.cell? ⟨gw, 1, none⟩ = some u) ∧ Sm w (wr1.setCell ⟨gw, 1, none⟩ v1) gw gr gm s k v1 (pre ++ [p]) := by
  obtain ⟨h1, h2, h3, h4, h5, h6⟩ := h.1.put (k' := 0) ho hg hat hb (by omega)
  refine ⟨h1, ?_, h2, h3, h4, h5, h6, ?_⟩
  · have hgw1 : wr1.heap[gw]? = some (.cells #[.int .i64 s, v] 29 (0, 0)) := (hg.block gw h.1.lt (Kd.R_ne h.1.2.1 h.1.1 (by decide))).trans h.1.1
    exact ⟨_, kcq hgw1 1⟩
  · refine (Below.heap_setCell _ _ _ _ (by show w.heap.size ≠ gw; omega)).trans ?_
    exact (hg.block _ h.lt (Kd.R_ne h.1.2.1 h.2 (by decide))).trans h.2
theorem Sm.rest {k' : Nat} {e : Ending} (h : Sm w wr gw gr gm s k v pre) (hp : PutsF wr.heap.size wr gr (k' : Int) e w1) (hne : gm ≠ gr) (hgr : w.heap.size < gr) (he : pre ++ L k' = L m) : Sr w w1 gw gr gm s m k' v pre := by
  obtain ⟨h2, h3, h4, h5, h6, h7⟩ := h
  have hlt : w.heap.size < wr.heap.size := (Array.getElem?_eq_some_iff.1 h7).1
  have hltg : gw < wr.heap.size := (Array.getElem?_eq_some_iff.1 h2).1
  obtain ⟨⟨_, hz, hg⟩, hf⟩ := hp
  have hb := h4.zz.blk
  refine ⟨⟨(hg.block gw hltg (by have := ne_types h2 hb (by decide); simpa using this)).trans h2, ?_, ?_, h5.grown hg hb hne, below_grown h6 hg (by omega), he⟩, (hg.block _ hlt (by simp; omega)).trans h7⟩
  · obtain ⟨b, A, n, c, hc⟩ := hb
    exact Kd.R_mono (Kd.R_grown (Kd.R_types h3 hc (by decide)) hg (fun k hk => by have := hk.2; simpa using this)) (fun _ hk => hk.1)
  · obtain ⟨A, c, hzb, hm⟩ := hz
    refine ⟨A, c, hzb, hm, fun ad hA hn ho => ?_⟩
    have h1 := hf _ _ _ (kcq hzb 1) ad hA hn
    have h2 := Kd.R_lt h3 _ ho.symm
    omega
end
end Go.Proofs.Ytdboepiobaehkaa.Mn
end
section
set_option linter.unusedVariables false
set_option linter.unusedSimpArgs false
namespace Go.Proofs.Ytdboepiobaehkaa.Mo
open Go.RowKit Go.Proofs.YtdboepiobaehkaaW.PrintWords Go.Proofs.YtdboepiobaehkaaW.PrintLast Go.Proofs.YtdboepiobaehkaaW.PrintMore Go.Proofs.Ytdboepiobaehkaa.PW Go.Proofs.Ytdboepiobaehkaa.Pc Go.Proofs.Ytdboepiobaehkaa.Ma Go.Proofs.Ytdboepiobaehkaa.Mb Go.Proofs.Ytdboepiobaehkaa.Mc Go.Proofs.Ytdboepiobaehkaa.Md Go.Proofs.Ytdboepiobaehkaa.Me Go.Proofs.Ytdboepiobaehkaa.Mi Go.Proofs.Ytdboepiobaehkaa.Mj Go.Proofs.Ytdboepiobaehkaa.Mk Go.Proofs.Ytdboepiobaehkaa.Ml Go.Proofs.Ytdboepiobaehkaa.Mn Dg
open Pm (sgn)
theorem L_next {k : Nat} (h : k ≠ 0) : L k = ((k % 16777216 : Nat) : Int) :: L (k / 16777216) := dg_pos _ h
theorem and_mask (k : Nat) : (((k : Int).natAbs &&& (16777215 : Int).natAbs : Nat) : Int) = ((k % 16777216 : Nat) : Int) := by
  have := Nat.and_two_pow_sub_one_eq_mod k 24
  rw [Int.natAbs_natCast, ← this]
  rfl
set_option maxHeartbeats 1600000 in
theorem fromBig_yes {w : World} {q : Nat} {z : Int} (hz : Z w q z) (h1 : bl z.natAbs ≤ 2400) :
    Calls Try.prog 139 #[.pointer (some ⟨q, 0, none⟩)] w (GivesW w (sgn z) (L z.natAbs) true) := by
  have hB := Me.bitLen (hz.below (waq w (.cells #[.int .i64 0, .slice none 0 0] 29))) (by omega)
  have HB := Lib.hid hB
  have hgt : ((bl z.natAbs : Nat) : Int) ≤ 2400 := by omega
  clear hB
  have HZ := Lib.hid hz
  have HL := Lib.hid h1
  clear hz h1
  generalize bl z.natAbs = b at hgt HB
  go_enter Try.func139, Try.ntmps139
  go_wp2_with fail
  refine HB.out.mono ?_
  rintro e w1 ⟨rfl, n, rfl⟩
  have hb0 : Below w.heap.size w ((w.alloc (.cells #[.int .i64 0, .slice none 0 0] 29)).drewN n) := below_then (waq w _) (Me.below_drawn n)
  have hS := Me.sign (HZ.out.below hb0)
  have hbx : ((w.alloc (.cells #[.int .i64 0, .slice none 0 0] 29)).drewN n).heap[w.heap.size]? = some (.cells #[.int .i64 0, .slice none 0 0] 29 (0, 0)) := ((Me.below_drawn n).block w.heap.size (by simp)).trans (heap_alloc_new w _)
  have hsz : ((w.alloc (.cells #[.int .i64 0, .slice none 0 0] 29)).drewN n).heap.size = w.heap.size + 1 := by show (w.alloc _).heap.size = _; simp
  have HS := Lib.hid hS
  have HB0 := Lib.hid hb0
  have HBX := Lib.hid hbx
  have HSZ := Lib.hid hsz
  clear hS hb0 hbx hsz
  generalize hW0 : (w.alloc (.cells #[.int .i64 0, .slice none 0 0] 29)).drewN n = W0 at *
  clear hW0
  go_wp2_with fail
  refine HS.out.mono ?_
  rintro e w2 ⟨rfl, rfl⟩
  -- the integers that are made
  have hz2 := HZ.out.below (below_then (below_then HB0.out (Ma.waq W0 (.cells #[.int .i64 (sgn z), .slice none 0 0] 29))) (Ma.waq _ (.cells #[.bool false, .slice none 0 0] 111)))
  have hp2 : Blk ((W0.alloc (.cells #[.int .i64 (sgn z), .slice none 0 0] 29)).alloc (.cells #[.bool false, .slice none 0 0] 111)) (W0.heap.size + 1) := by
    have := (Z.new (W0.alloc (.cells #[.int .i64 (sgn z), .slice none 0 0] 29))).blk
    simpa using this
  have hA := Me.abs hp2 hz2 (by have := HL.out; omega)
  have HA := Lib.hid hA
  have HP2 := Lib.hid hp2
  clear hA hz2 hp2
  go_wp2_with fail
  refine HA.out.mono ?_
  rintro e w3 ⟨rfl, hz3, hg3⟩
  have HZ3 := Lib.hid hz3
  have HG3 := Lib.hid hg3
  have hn3 := newInt (w := w3) (n := 16777215) (by decide) (by decide)
  have HN3 := Lib.hid hn3
  clear hz3 hg3 hn3
  go_wp2_with fail
  refine HN3.out.mono ?_
  rintro e w4 ⟨gm, rfl, hz4, hgm, hb4⟩
  have hst : Sr w w4 W0.heap.size (W0.heap.size + 1) gm (sgn z) z.natAbs z.natAbs (.slice none 0 0) [] := by
    have hA1 : Below W0.heap.size W0 ((W0.alloc (.cells #[.int .i64 (sgn z), .slice none 0 0] 29)).alloc (.cells #[.bool false, .slice none 0 0] 111)) := below_then (Ma.waq W0 _) (Ma.waq _ _)
    have hA2 : Below W0.heap.size W0 w3 := below_grown hA1 HG3.out (by omega)
    have hs3 := HG3.out.size
    simp at hs3
    have hcell : ((W0.alloc (.cells #[.int .i64 (sgn z), .slice none 0 0] 29)).alloc (.cells #[.bool false, .slice none 0 0] 111)).heap[W0.heap.size]? = some (.cells #[.int .i64 (sgn z), .slice none 0 0] 29 (0, 0)) := ((Ma.waq _ _).block _ (by simp)).trans (heap_alloc_new W0 _)
    have hcell3 := (HG3.out.block W0.heap.size (by simp; omega) (by simp)).trans hcell
    have hcell4 := (hb4.block W0.heap.size (by omega)).trans hcell3
    have h0 : w.heap.size < W0.heap.size := by have := HSZ.out; omega
    refine ⟨⟨hcell4, Kd.R_nil _ _ _ _ _, ZF.of (HZ3.out.below hb4), ZF.of hz4, below_then (below_then HB0.out hA2) hb4, rfl⟩, ?_⟩
    exact (hb4.block _ (by omega)).trans ((hA2.block _ h0).trans HBX.out)
  have hne : gm ≠ W0.heap.size + 1 := by have := HZ3.out.lt; omega
  have hlim : (L z.natAbs).length ≤ 100 := (L_len_iff _ _).2 (by have := HL.out; omega)
  have HST := Lib.hid hst
  have HNE := Lib.hid hne
  have HLIM := Lib.hid hlim
  have hsz2 : w.heap.size < W0.heap.size := by have := HSZ.out; omega
  have HSZ2 := Lib.hid hsz2
  clear hz4 hgm hb4 hst hne hlim hsz2 HZ3 HG3 HN3 HA HP2 HS HB0 HBX HSZ HZ HB
  go_wp2_with fail
  generalize W0.heap.size = g at *
  have hsign : ∀ (wr : World) (k : Nat) (v : Value) (pre : List Int), Sr w wr g (g + 1) gm (sgn z) z.natAbs k v pre → Calls Try.prog 172 #[.pointer (some ⟨g + 1, 0, none⟩)] wr fun e w' => e = .returned (.int .i64 (sgn (k : Int))) ∧ wr = w' := fun wr k v pre h => Me.sign h.1.2.2.1.zz
  have HSG := Lib.hid hsign
  clear hsign
  go_loopg [] (L z.natAbs).length (fun n wr => ∃ (k : Nat) (v : Value) (pre : List Int), n = (L k).length ∧ Hid (Sr w wr g (g + 1) gm (sgn z) z.natAbs k v pre))
  case atStart => exact ⟨_, _, [], rfl, HST⟩
  case round =>
    obtain ⟨k, v, pre, hlen, HR⟩ := hrel
    clear HST
    obtain ⟨A, c, rfl⟩ := Kd.R_slice HR.out.1.2.1
    by_cases hk : k = 0
    · subst hk
      have hs0 : sgn ((0 : Nat) : Int) = 0 := rfl
      have HS0 := Lib.hid hs0
      clear hs0 hlen
      go_wp2_with fail
      refine (HSG.out wr _ _ _ HR.out).mono ?_
      rintro e w2 ⟨rfl, rfl⟩
      rw [HS0.out]
      have k0 := kcq HR.out.1.1 0
      have k1 := kcq HR.out.1.1 1
      simp only [List.getElem?_toArray, List.getElem?_cons_zero, List.getElem?_cons_succ] at k0 k1
      have c0 := kcq HR.out.2 0
      have c1 := kcq HR.out.2 1
      have f0 := kfq HR.out.2 0
      have f1 := kfq HR.out.2 1
      simp only [List.getElem?_toArray, List.getElem?_cons_zero, List.getElem?_cons_succ] at c0 c1
      go_wp2
      have hL0 : pre = L z.natAbs := by have := HR.out.1.2.2.2.2.2; rwa [show L 0 = [] from dg_zero _, List.append_nil] at this
      have hR := Kd.R_set (Kd.R_set HR.out.1.2.1 HR.out.2 (by decide) 0 (.int .i64 (sgn z))) (blk_set HR.out.2 0 (.int .i64 (sgn z))) (by decide) 1 (.slice A pre.length c)
      have hB := (HR.out.1.2.2.2.2.1.setCell (p := ⟨w.heap.size, 0, none⟩) (Nat.le_refl _) (.int .i64 (sgn z))).setCell (p := ⟨w.heap.size, 1, none⟩) (Nat.le_refl _) (.slice A pre.length c)
      have hBL := blk_set (blk_set HR.out.2 0 (.int .i64 (sgn z))) 1 (.slice A pre.length c)
      clear c0 c1 f0 f1 k0 k1
      rw [← hL0]
      exact bodyPost_ret (results_ct rfl _ _ w.heap.size 29 #[.int .i64 (sgn z), .slice A pre.length c] (0, 0) _ rfl hBL Try.underlying29 rfl sizeW) rfl ⟨_, rfl, hR, hB⟩
    · have hs1 : sgn ((k : Nat) : Int) = 1 := by unfold sgn; rw [if_neg (by omega), if_neg (by omega)]
      have HS1 := Lib.hid hs1
      have HK := Lib.hid hk
      clear hs1 hk
      go_wp2_with fail
      refine (HSG.out wr _ _ _ HR.out).mono ?_
      rintro e w2 ⟨rfl, rfl⟩
      rw [HS1.out]
      have kc := kcq HR.out.1.1 1
      simp only [List.getElem?_toArray, List.getElem?_cons_zero, List.getElem?_cons_succ] at kc
      have hlt := HR.out.1.lt
      have hh := HR.out.1.2.2.2.2.2
      have hpl : (pre.length + 1) * 8 ≤ 140737488355328 := by have := congrArg List.length hh; rw [List.length_append] at this; have := HLIM.out; omega
      have hbk : bl k ≤ 2400 := by
        have : (L k).length ≤ 100 := by have := congrArg List.length hh; rw [List.length_append] at this; have := HLIM.out; omega
        have := (L_len_iff k 100).1 this
        omega
      rw [L_next HK.out] at hh hlen
      have he : (pre ++ [((k % 16777216 : Nat) : Int)]) ++ L (k / 16777216) = L z.natAbs := by rw [List.append_assoc]; exact hh
      have hms : (L (k / 16777216)).length < gk := by rw [hlen]; simp
      have HPL := Lib.hid hpl
      have HBK := Lib.hid hbk
      have HE := Lib.hid he
      have HMS := Lib.hid hms
      clear hh hpl hbk he hms hlen
      have hand : ∀ W : World, Below wr.heap.size wr W → Blk W wr.heap.size → Calls Try.prog 192 #[.pointer (some ⟨wr.heap.size, 0, none⟩), .pointer (some ⟨g + 1, 0, none⟩), .pointer (some ⟨gm, 0, none⟩)] W fun e w' => e = .returned (.pointer (some ⟨wr.heap.size, 0, none⟩)) ∧ Hid (Sr w w' g (g + 1) gm (sgn z) z.natAbs k (.slice A pre.length c) pre) ∧ Hid (Z w' wr.heap.size ((k % 16777216 : Nat) : Int)) ∧ w'.cell? ⟨g, 1, none⟩ = some (.slice A pre.length c) := by
        intro W hW hB
        have hr := HR.out.below hW
        have h0 := HR.out.1.2.2.1.zz.lt
        have h2 := HR.out.1.2.2.2.1.zz.lt
        have hbk : bl ((k : Nat) : Int).natAbs ≤ 2400 := by
          have := HBK.out
          rw [Int.natAbs_natCast]; omega
        refine (andd hB hr.1.2.2.1.zz hr.1.2.2.2.1.zz (by omega) (by decide)).mono ?_
        rintro e w' ⟨rfl, hz, hg⟩
        rw [and_mask] at hz
        have hr2 := hr.other hB (by omega) (by omega) (by have := HR.out.lt; omega) hg
        exact ⟨rfl, Lib.hid hr2, Lib.hid hz, hr2.1.cell⟩
      have HAND := Lib.hid hand
      have hint : ∀ W : World, Z W wr.heap.size ((k % 16777216 : Nat) : Int) → Calls Try.prog 175 #[.pointer (some ⟨wr.heap.size, 0, none⟩)] W fun e w' => e = .returned (.int .i64 ((k % 16777216 : Nat) : Int)) ∧ W = w' := fun W hW => int64 hW (by omega) (by omega)
      have HINT := Lib.hid hint
      clear hand hint
      go_wp2_with fail
      go_region_law (first | (go_simp; go_at_call 192; refine (HAND.out _ (by first | exact ((Below.refl _ _).alloc (Nat.le_refl _) _).drew | exact (Below.refl _ _).drew.alloc (Nat.le_refl _) _) (by first | exact (Z.new wr).blk.below (Below.refl _ _).drew | exact (Z.new wr.drew).blk)).mono ?_; rintro e w2 ⟨rfl, HR2, HZ2, kc2⟩; have hl2 := HR2.out.1.lt; clear HR kc) | (go_simp; go_at_call 175; refine (HINT.out _ HZ2.out).mono ?_; rintro e w3 ⟨rfl, rfl⟩) | (refine Kd.R_append_step (Kd.int .i64) (w0 := w) w.heap.size (by rfl) (.tmp 22) (.tmp 28) 22 2 (.int .i64 0) 8 rfl Try.underlying22 infoI rfl (by decide) (by omega) _ pre ((k % 16777216 : Nat) : Int) [.int .i64 ((k % 16777216 : Nat) : Int)] (fun _ => True) (fun _ => False) rfl rfl rfl (fun _ hk => hk.elim) (fun _ _ => trivial) HR2.out.1.2.1 HR2.out.1.2.2.2.2.1 HR2.out.1.2.2.2.2.1.size HPL.out ?_; intro v1 w1 ho hb hg hat; obtain ⟨A1, c1, rfl⟩ := Kd.R_slice ho; obtain ⟨ff, ⟨u, cc⟩, HP⟩ := HR2.out.put ho hg hat hb HSZ2.out; rw [show (pre ++ [((k % 16777216 : Nat) : Int)]).length = pre.length + 1 by simp] at HP; have HPH := Lib.hid HP; clear HP ho hb hg hat HR2))
      all_goals clear HAND HINT HZ2
      all_goals
        clear kc2 hl2 hlt
        go_wp2_with fail
        refine (rshF HPH.out.2.2.1.zz (n := 24) (Nat.le_trans HBK.out (by decide)) (by decide)).mono ?_
        intro e w5 hp
        have HR5 := Lib.hid (HPH.out.rest hp HNE.out (Nat.lt_succ_of_lt HSZ2.out) HE.out)
        obtain ⟨⟨rfl, hz5, hg5⟩, hf5⟩ := hp
        clear hz5 hg5 hf5 HPH ff cc
        go_wp2_with fail
        go_roundg (L (k / 16777216)).length
        case measure => exact HMS.out
        case rel => exact ⟨_, _, _, rfl, HR5⟩
end Go.Proofs.Ytdboepiobaehkaa.Mo
end
section
namespace Go.Proofs.Ytdboepiobaehkaa.Mq
end Go.Proofs.Ytdboepiobaehkaa.Mq
end
section
set_option linter.unusedVariables false
set_option linter.unusedSimpArgs false
namespace Go.Proofs.Ytdboepiobaehkaa.Mr
open Go.RowKit Go.Proofs.YtdboepiobaehkaaW.PrintWords Go.Proofs.Ytdboepiobaehkaa.PW Go.Proofs.Ytdboepiobaehkaa.Pc Go.Proofs.Ytdboepiobaehkaa.Pb Go.Proofs.Ytdboepiobaehkaa.Pw Go.Proofs.Ytdboepiobaehkaa.Ma Go.Proofs.Ytdboepiobaehkaa.Mb Go.Proofs.Ytdboepiobaehkaa.Mc Go.Proofs.Ytdboepiobaehkaa.Md Go.Proofs.Ytdboepiobaehkaa.Me Go.Proofs.Ytdboepiobaehkaa.Mg Go.Proofs.Ytdboepiobaehkaa.Mh Go.Proofs.Ytdboepiobaehkaa.Mq Dg
def both (s0 : Int) (l0 : List Int) (s1 : Int) (l1 : List Int) (z : Int) : Int × List Int × Int := if isW s0 l0 = true ∧ isW s1 l1 = true then fit z else (0, [], 1)
end Go.Proofs.Ytdboepiobaehkaa.Mr
end
section
set_option linter.unusedVariables false
set_option linter.unusedSimpArgs false
namespace Go.Proofs.Ytdboepiobaehkaa.Mu
open Go.RowKit Go.Proofs.YtdboepiobaehkaaW.PrintWords Go.Proofs.Ytdboepiobaehkaa.PW Go.Proofs.Ytdboepiobaehkaa.Pc Go.Proofs.Ytdboepiobaehkaa.Pb Go.Proofs.Ytdboepiobaehkaa.Pw Go.Proofs.Ytdboepiobaehkaa.Ma Go.Proofs.Ytdboepiobaehkaa.Mb Go.Proofs.Ytdboepiobaehkaa.Mc Go.Proofs.Ytdboepiobaehkaa.Md Go.Proofs.Ytdboepiobaehkaa.Me Go.Proofs.Ytdboepiobaehkaa.Mg Go.Proofs.Ytdboepiobaehkaa.Mh Go.Proofs.Ytdboepiobaehkaa.Mq Go.Proofs.Ytdboepiobaehkaa.Mr Dg
theorem bl_add_natAbs (x y : Int) : bl (x + y).natAbs ≤ max (bl x.natAbs) (bl y.natAbs) + 1 :=
  Nat.le_trans (bl_mono (Int.natAbs_add_le x y)) (bl_add_le _ _)
theorem alloc_size (w : World) (o : Obj) : (w.alloc o).heap.size = w.heap.size + 1 := by simp
theorem below_put {B q : Nat} {w w1 w2 : World} (h : Below B w w1) (k : w1.grownBy w2 (some q)) (hq : B ≤ q) (hw1 : B ≤ w1.heap.size) : Below B w w2 :=
  h.trans ⟨k.os, k.tape, k.output, k.size, fun i hi => k.block i (Nat.lt_of_lt_of_le hi hw1) (by simp; omega)⟩
theorem cellsOf {W : World} {g : Nat} (hg : W.heap[g]? = some (.cells #[.int .i64 0, .slice none 0 0] 29 (0, 0))) : W.cell? ⟨g, 0, none⟩ = some (.int .i64 0) ∧ W.cell? ⟨g, 1, none⟩ = some (.slice none 0 0) ∧ W.frozen? ⟨g, 0, none⟩ = false ∧ W.frozen? ⟨g, 1, none⟩ = false :=
  ⟨kcq hg 0, kcq hg 1, kfq hg 0, kfq hg 1⟩
end Go.Proofs.Ytdboepiobaehkaa.Mu
end
section
set_option linter.unusedVariables false
set_option linter.unusedSimpArgs false
namespace Go.Proofs.Ytdboepiobaehkaa.Na
open Go.RowKit Go.Proofs.YtdboepiobaehkaaW.PrintWords Go.Proofs.Ytdboepiobaehkaa.PW Go.Proofs.Ytdboepiobaehkaa.Pc Go.Proofs.Ytdboepiobaehkaa.Pb Go.Proofs.Ytdboepiobaehkaa.Pw Go.Proofs.Ytdboepiobaehkaa.Ma Go.Proofs.Ytdboepiobaehkaa.Mb Go.Proofs.Ytdboepiobaehkaa.Mc Go.Proofs.Ytdboepiobaehkaa.Md Go.Proofs.Ytdboepiobaehkaa.Me Go.Proofs.Ytdboepiobaehkaa.Mg Go.Proofs.Ytdboepiobaehkaa.Mh Go.Proofs.Ytdboepiobaehkaa.Mk Go.Proofs.Ytdboepiobaehkaa.Mn Go.Proofs.Ytdboepiobaehkaa.Mu Go.Proofs.Ytdboepiobaehkaa.Nb Dg
open Pm (sgn)
theorem sizeN : (Try.prog.info? 71).map (·.size) = some 2 := by kernel_rfl
theorem boxes1 (w : World) (o : Obj) : ∀ W, Below (w.heap.size + 1) (w.alloc o) W → Below w.heap.size w W ∧ W.heap[w.heap.size]? = some o ∧ w.heap.size + 1 ≤ W.heap.size := fun W hW =>
  ⟨(Ma.waq w o).trans (hW.mono (by omega)), (hW.block _ (by omega)).trans (heap_alloc_new w o), by have := hW.size; rw [alloc_size] at this; exact this⟩
theorem boxes2 (w : World) (o o2 : Obj) : ∀ W, Below (w.heap.size + 2) ((w.alloc o).alloc o2) W → Below w.heap.size w W ∧ W.heap[w.heap.size]? = some o ∧ W.heap[w.heap.size + 1]? = some o2 ∧ w.heap.size + 2 ≤ W.heap.size := fun W hW => by
  have e := alloc_size w o
  have h := boxes1 (w.alloc o) o2 W (by rw [e]; exact hW)
  rw [e] at h
  exact ⟨(Ma.waq w o).trans (h.1.mono (by omega)), (h.1.block _ (by omega)).trans (heap_alloc_new w o), h.2.1, h.2.2⟩
theorem boxes3 (w : World) (o o2 o3 : Obj) : ∀ W, Below (w.heap.size + 3) (((w.alloc o).alloc o2).alloc o3) W → Below w.heap.size w W ∧ W.heap[w.heap.size]? = some o ∧ W.heap[w.heap.size + 1]? = some o2 ∧ W.heap[w.heap.size + 1 + 1]? = some o3 ∧ w.heap.size + 3 ≤ W.heap.size := fun W hW => by
  have e := alloc_size w o
  have h := boxes2 (w.alloc o) o2 o3 W (by rw [e]; exact hW)
  rw [e] at h
  exact ⟨(Ma.waq w o).trans (h.1.mono (by omega)), (h.1.block _ (by omega)).trans (heap_alloc_new w o), h.2.1, h.2.2.1, h.2.2.2⟩
theorem zset {w : World} {p gw t : Nat} {n : Int} {cs : Array Value} (h : Z w p n) (hw : w.heap[gw]? = some (.cells cs t (0, 0))) (ht : t ≠ 111) (hc : ∀ (i : Nat) (x : Int), cs[i]? ≠ some (Value.int .u32 x)) (i : Nat) (u : Value) : Z (w.setCell ⟨gw, i, none⟩ u) p n := by
  obtain ⟨A, c, hb, hm⟩ := h
  have hne : p ≠ gw := by
    rintro rfl
    rw [hb] at hw
    injection hw with hw
    injection hw with _ hw
    exact ht hw.symm
  refine ⟨A, c, (Below.heap_setCell _ _ _ _ hne).trans hb, Mn.Mg.kept_at hm fun ad hA hn => Below.heap_setCell _ _ _ _ ?_⟩
  intro e
  have e : ad.block = gw := e
  obtain ⟨ad', hA', hc'⟩ := hm.1.2.2 hn
  rw [hA] at hA'
  injection hA' with hA'
  subst hA'
  obtain ⟨cs', hs, hR, hcell⟩ := hc' 0 _ (List.getElem?_eq_getElem hn)
  have hR' : cs' = [.int .u32 (D n.natAbs)[0]] := hR
  subst hR'
  have h4 := hcell 0 _ rfl
  rw [← e] at hw
  simp only [World.cell?, Mn.add_block, hw] at h4
  split at h4
  · cases h4
  · exact hc _ _ h4
def GivesN (w : World) (z e : Int) (en : Ending) (w' : World) : Prop := ∃ g, en = .returned (.agg #[.pointer (some ⟨g, 0, none⟩), .int .i64 e]) ∧ Z w' g z ∧ Below w.heap.size w w'
theorem two_cells {u v : Value} (hu : ∀ x : Int, u ≠ Value.int .u32 x) (hv : ∀ x : Int, v ≠ Value.int .u32 x) : ∀ (i : Nat) (x : Int), (#[u, v] : Array Value)[i]? ≠ some (Value.int .u32 x) := by
  intro i x h
  match i, h with
  | 0, h => exact hu x (by simpa using h)
  | 1, h => exact hv x (by simpa using h)
  | n + 2, h => simp at h
theorem storedN {w W : World} {g q : Nat} {z e : Int} (hg : W.heap[g]? = some (.cells #[.pointer none, .int .i64 0] 71 (0, 0))) (hb : Below w.heap.size w W) (hw : w.heap.size ≤ g) (hz : Z W q z) :
    ((W.setCell ⟨g, 0, none⟩ (.pointer (some ⟨q, 0, none⟩))).setCell ⟨g, 1, none⟩ (.int .i64 e)).heap[g]? = some (.cells #[.pointer (some ⟨q, 0, none⟩), .int .i64 e] 71 (0, 0)) ∧ Z ((W.setCell ⟨g, 0, none⟩ (.pointer (some ⟨q, 0, none⟩))).setCell ⟨g, 1, none⟩ (.int .i64 e)) q z ∧ Below w.heap.size w ((W.setCell ⟨g, 0, none⟩ (.pointer (some ⟨q, 0, none⟩))).setCell ⟨g, 1, none⟩ (.int .i64 e)) :=
  ⟨blk_set (blk_set hg 0 _) 1 _, zset (zset hz hg (by decide) (two_cells (fun x => by simp) (fun x => by simp)) 0 _) (blk_set hg 0 (.pointer (some ⟨q, 0, none⟩))) (by decide) (two_cells (fun x => by simp) (fun x => by simp)) 1 _, (hb.setCell (p := ⟨g, 0, none⟩) hw _).setCell (p := ⟨g, 1, none⟩) hw _⟩
theorem cellsN {W : World} {g : Nat} {u v : Value} {t : Nat} (hg : W.heap[g]? = some (.cells #[u, v] t (0, 0))) : W.cell? ⟨g, 0, none⟩ = some u ∧ W.cell? ⟨g, 1, none⟩ = some v ∧ W.frozen? ⟨g, 0, none⟩ = false ∧ W.frozen? ⟨g, 1, none⟩ = false ∧ g < W.heap.size :=
  ⟨kcq hg 0, kcq hg 1, kfq hg 0, kfq hg 1, (Array.getElem?_eq_some_iff.1 hg).1⟩
theorem news_below {W0 W W2 : World} {p : Nat} (h : Below W0.heap.size W0 W) (hp : W0.heap.size ≤ p) (hg : W.grownBy W2 (some p)) : Below W0.heap.size W0 W2 := below_put h hg hp h.size
set_option maxHeartbeats 400000 in
theorem nsign {w : World} {q : Nat} {z e : Int} (hz : Z w q z) :
    Calls Try.prog 125 #[.agg #[.pointer (some ⟨q, 0, none⟩), .int .i64 e]] w fun en w' => en = .returned (.int .i64 (sgn z)) ∧ Below w.heap.size w w' := by
  have HS := Lib.hid (Me.sign (hz.below (Ma.waq w (.cells #[.pointer (some ⟨q, 0, none⟩), .int .i64 e] 71))))
  clear hz
  go_enter Try.func125, Try.ntmps125
  go_wp2_with fail
  refine HS.out.mono ?_
  rintro en w1 ⟨rfl, rfl⟩
  go_wp2
  go_ret
  exact ⟨rfl, Ma.waq _ _⟩
set_option maxHeartbeats 800000 in
theorem nneg {w : World} {q : Nat} {z e : Int} (hz : Z w q z) (h1 : bl z.natAbs ≤ 1073741823) :
    Calls Try.prog 98 #[.agg #[.pointer (some ⟨q, 0, none⟩), .int .i64 e]] w (GivesN w (-z) e) := by
  obtain ⟨W0, hW0⟩ : ∃ W0, W0 = (w.alloc (.cells #[.pointer (some ⟨q, 0, none⟩), .int .i64 e] 71)).alloc (.cells #[.pointer none, .int .i64 0] 71) := ⟨_, rfl⟩
  obtain ⟨hb0, hx0, hx1, hs0⟩ := boxes2 w (.cells #[.pointer (some ⟨q, 0, none⟩), .int .i64 e] 71) (.cells #[.pointer none, .int .i64 0] 71) W0 (by rw [hW0]; exact Below.refl _ _)
  have HN := Lib.hid (fun (W : World) (p : Nat) (hp : Blk W p) (hb : Below W0.heap.size W0 W) => Me.neg hp ((hz.below hb0).below hb) h1)
  have HB0 := Lib.hid hb0
  have HX0 := Lib.hid hx0
  have HX1 := Lib.hid hx1
  have HW := Lib.hid hW0
  obtain ⟨c0, c1, _, _, l0⟩ := cellsN hx0
  obtain ⟨d0, d1, f0, f1, l1⟩ := cellsN hx1
  clear hz hb0 hx0 hx1 hW0 h1
  go_enter Try.func98, Try.ntmps98
  go_wp2_with fail
  rw [← HW.out]
  clear HW
  go_region_held3 (fun w' => w'.cell? ⟨w.heap.size, 0, none⟩ = some (.pointer (some ⟨q, 0, none⟩)) ∧ w'.cell? ⟨w.heap.size, 1, none⟩ = some (.int .i64 e)) (go_keep)
    (first | (go_at_call 144; refine (HN.out _ _ (by first | exact (Z.new _).blk | exact (Z.new W0).blk.below (Below.refl _ _).drew) (by first | exact Ma.waq _ _ | exact (Below.refl _ _).drew.alloc (Nat.le_refl _) _ | exact (Ma.waq _ _).drew)).mono ?_; rintro en w2 ⟨rfl, hz2, hg2⟩; have hb2 := news_below (W0 := W0) (by first | exact Ma.waq _ _ | exact (Below.refl _ _).drew.alloc (Nat.le_refl _) _ | exact (Ma.waq _ _).drew) (Nat.le_refl _) hg2; have hx0 := (hb2.block _ l0).trans HX0.out; have hx1 := (hb2.block _ l1).trans HX1.out; obtain ⟨a0, a1, _, _, k0⟩ := cellsN hx0; obtain ⟨b0, b1, g0, g1, k1⟩ := cellsN hx1; have HX2 := Lib.hid hx1; have HB2 := Lib.hid (HB0.out.trans (hb2.mono (Nat.le_trans (by omega) hs0))); have HZ2 := Lib.hid hz2; clear hz2 hg2 hb2 hx0 hx1))
  all_goals go_wp2
  all_goals
    have hst := storedN (e := e) HX2.out HB2.out (by omega) HZ2.out
    exact bodyPost_ret (results_single rfl (.cell (w.heap.size + 1) 71 #[.pointer (some ⟨W0.heap.size, 0, none⟩), .int .i64 e] (0, 0) _ rfl hst.1 Try.underlying71 rfl sizeN .nil)) rfl ⟨_, rfl, hst.2.1, hst.2.2⟩
end Go.Proofs.Ytdboepiobaehkaa.Na
end
section
set_option linter.unusedVariables false
set_option linter.unusedSimpArgs false
namespace Go.Proofs.Ytdboepiobaehkaa.Nd
open Go.RowKit Go.Proofs.YtdboepiobaehkaaW.PrintWords Go.Proofs.Ytdboepiobaehkaa.PW Go.Proofs.Ytdboepiobaehkaa.Pc Go.Proofs.Ytdboepiobaehkaa.Pb Go.Proofs.Ytdboepiobaehkaa.Pw Go.Proofs.Ytdboepiobaehkaa.Ma Go.Proofs.Ytdboepiobaehkaa.Mb Go.Proofs.Ytdboepiobaehkaa.Mc Go.Proofs.Ytdboepiobaehkaa.Md Go.Proofs.Ytdboepiobaehkaa.Me Go.Proofs.Ytdboepiobaehkaa.Mg Go.Proofs.Ytdboepiobaehkaa.Mh Go.Proofs.Ytdboepiobaehkaa.Mk Go.Proofs.Ytdboepiobaehkaa.Mn Go.Proofs.Ytdboepiobaehkaa.Mo Go.Proofs.Ytdboepiobaehkaa.Mu Go.Proofs.Ytdboepiobaehkaa.Na Go.Proofs.Ytdboepiobaehkaa.Nb Dg
open Pm (sgn)
theorem sgn_eq0 {z : Int} : (sgn z = 0) = (z = 0) := by
  apply propext
  unfold Pm.sgn
  split
  · omega
  · split <;> omega
set_option maxHeartbeats 400000 in
theorem nzero {w : World} : Calls Try.prog 190 #[] w (GivesN w 0 0) := by
  obtain ⟨W0, hW0⟩ : ∃ W0, W0 = w.alloc (.cells #[.pointer none, .int .i64 0] 71) := ⟨_, rfl⟩
  obtain ⟨hb0, hx0, hs0⟩ := boxes1 w (.cells #[.pointer none, .int .i64 0] 71) W0 (by rw [hW0]; exact Below.refl _ _)
  have hx1 := ((Ma.waq W0 (.cells #[.bool false, .slice none 0 0] 111)).block _ (show w.heap.size < W0.heap.size by omega)).trans hx0
  have HX1 := Lib.hid hx1
  have HB1 := Lib.hid (below_then hb0 (Ma.waq W0 (.cells #[.bool false, .slice none 0 0] 111)))
  have HW := Lib.hid hW0
  obtain ⟨c0, c1, f0, f1, l0⟩ := cellsN hx1
  clear hb0 hx0 hx1 hW0
  go_enter Try.func190, Try.ntmps190
  go_upto_region 1 with fail
  rw [← HW.out]
  clear HW
  go_wp2
  have hst := storedN (q := W0.heap.size) (z := 0) (e := 0) HX1.out HB1.out (Nat.le_refl _) (Z.new W0)
  exact bodyPost_ret (results_single rfl (.cell w.heap.size 71 #[.pointer (some ⟨W0.heap.size, 0, none⟩), .int .i64 0] (0, 0) _ rfl hst.1 Try.underlying71 rfl sizeN .nil)) rfl ⟨_, rfl, hst.2.1, hst.2.2⟩
def oddz (z : Int) : Int := z / 2 ^ tz z.natAbs
def odde (z e : Int) : Int := if z = 0 then 0 else e + (tz z.natAbs : Nat)
set_option maxRecDepth 20000 in
set_option maxHeartbeats 1600000 in
theorem nodd {w : World} {q : Nat} {z e : Int} (hz : Z w q z) (hb : bl z.natAbs ≤ 268435456) (h1 : -1000000 ≤ e) (h2 : e ≤ 1000000) :
    Calls Try.prog 138 #[.agg #[.pointer (some ⟨q, 0, none⟩), .int .i64 e]] w (GivesN w (oddz z) (odde z e)) := by
  obtain ⟨W0, hW0⟩ : ∃ W0, W0 = (w.alloc (.cells #[.pointer (some ⟨q, 0, none⟩), .int .i64 e] 71)).alloc (.cells #[.pointer none, .int .i64 0] 71) := ⟨_, rfl⟩
  obtain ⟨hb0, hx0, hx1, hs0⟩ := boxes2 w (.cells #[.pointer (some ⟨q, 0, none⟩), .int .i64 e] 71) (.cells #[.pointer none, .int .i64 0] 71) W0 (by rw [hW0]; exact Below.refl _ _)
  have zx := hz.below hb0
  obtain ⟨c0, c1, _, _, l0⟩ := cellsN hx0
  obtain ⟨d0, d1, f0, f1, l1⟩ := cellsN hx1
  have HS := Lib.hid (fun (W : World) (hb : Below W0.heap.size W0 W) => nsign (e := e) (zx.below hb))
  have stay := Lib.hid (fun (W : World) (hb : Below W0.heap.size W0 W) => (⟨cellsN ((hb.block _ l0).trans hx0), cellsN ((hb.block _ l1).trans hx1), (hb.block _ l1).trans hx1, hb0.trans (hb.mono (Nat.le_trans (by omega) hs0))⟩ : _ ∧ _ ∧ _ ∧ Below w.heap.size w W))
  have HW := Lib.hid hW0
  clear hz hb0 hx0 hx1 hW0
  by_cases h0 : z = 0
  · have es : sgn z = 0 := by rw [sgn_eq0]; exact h0
    have ez : oddz z = 0 := by unfold oddz; rw [h0, Int.zero_ediv]
    have ee : odde z e = 0 := by unfold odde; rw [if_pos h0]
    rw [ez, ee]
    rw [es] at HS
    clear es ez ee h0 zx
    go_enter Try.func138, Try.ntmps138
    go_upto_region 1 with fail
    rw [← HW.out]
    clear HW
    go_wp2_with fail
    refine (HS.out W0 (Below.refl _ _)).mono ?_
    rintro en w1 ⟨rfl, hb1⟩
    obtain ⟨⟨p0, p1, _, _, p2⟩, ⟨t0, t1, t2, t3, t4⟩, hx1, hbw⟩ := stay.out w1 hb1
    have HB1 := Lib.hid hb1
    clear hx1 hbw hb1
    go_wp2_with fail
    refine nzero.mono ?_
    rintro en w2 ⟨g, rfl, hz2, hb2⟩
    have hb12 := below_then HB1.out hb2
    clear p0 p1 p2 t0 t1 t2 t3 t4 HB1 hb2
    obtain ⟨⟨p0, p1, _, _, p2⟩, ⟨t0, t1, t2, t3, t4⟩, hx1, hbw⟩ := stay.out w2 hb12
    have HX2 := Lib.hid hx1
    have HB2 := Lib.hid hbw
    have HZ2 := Lib.hid hz2
    clear hx1 hbw hb12 hz2
    go_wp2
    have hst := storedN (e := 0) HX2.out HB2.out (by omega) HZ2.out
    exact bodyPost_ret (results_single rfl (.cell (w.heap.size + 1) 71 #[.pointer (some ⟨g, 0, none⟩), .int .i64 0] (0, 0) _ rfl hst.1 Try.underlying71 rfl sizeN .nil)) rfl ⟨_, rfl, hst.2.1, hst.2.2⟩
  · have es : ¬ sgn z = 0 := by rw [sgn_eq0]; exact h0
    have ht := tz_lt (show z.natAbs ≠ 0 by omega)
    have HT := Lib.hid (fun (W : World) (hb' : Below W0.heap.size W0 W) => Nb.twos (zx.below hb') h0 (by omega))
    have HR := Lib.hid (fun (W : World) (p : Nat) (hp : Blk W p) (hb' : Below W0.heap.size W0 W) => Mk.rsh (n := tz z.natAbs) hp (zx.below hb') hb (by omega))
    have ee : odde z e = e + (tz z.natAbs : Nat) := by unfold odde; rw [if_neg h0]
    rw [ee]
    rw [show z / 2 ^ tz z.natAbs = oddz z from rfl] at HR
    generalize sgn z = sx at HS es
    have htl : tz z.natAbs ≤ 268435456 := by omega
    generalize tz z.natAbs = t at *
    have HE := Lib.hid (show IntKind.i64.wrap (e + IntKind.i64.wrap (t : Int)) = e + (t : Int) by rw [IntKind.wrap_i64, IntKind.wrap_i64]; omega)
    clear ee h0 zx hb ht
    generalize oddz z = y at *
    go_enter Try.func138, Try.ntmps138
    go_upto_region 1 with fail
    rw [← HW.out]
    clear HW
    go_wp2_with fail
    refine (HS.out W0 (Below.refl _ _)).mono ?_
    rintro en w1 ⟨rfl, hb1⟩
    obtain ⟨⟨p0, p1, _, _, p2⟩, ⟨t0, t1, t2, t3, t4⟩, hx1, hbw⟩ := stay.out w1 hb1
    have HB1 := Lib.hid hb1
    clear hx1 hbw hb1
    go_wp2_with fail
    refine (HT.out w1 HB1.out).mono ?_
    rintro en w2 ⟨rfl, n2, rfl⟩
    obtain ⟨w3, hw3⟩ : ∃ w3, w3 = w1.drewN n2 := ⟨_, rfl⟩
    have hb12 : Below W0.heap.size W0 w3 := by rw [hw3]; exact below_then HB1.out (below_drawn n2)
    rw [← hw3]
    clear p0 p1 p2 t0 t1 t2 t3 t4 HB1
    obtain ⟨⟨p0, p1, _, _, p2⟩, ⟨t0, t1, t2, t3, t4⟩, hx1, hbw⟩ := stay.out w3 hb12
    have HB2 := Lib.hid hb12
    have hs2 := hb12.size
    clear hx1 hbw hb12 hw3
    go_wp2_with fail
    go_region_held3 (fun w' => w'.cell? ⟨w.heap.size, 0, none⟩ = some (.pointer (some ⟨q, 0, none⟩)) ∧ w'.cell? ⟨w.heap.size, 1, none⟩ = some (.int .i64 e)) (go_keep)
      (first | (go_at_call 170; refine (HR.out _ _ (by first | exact (Z.new _).blk | exact (Z.new w3).blk.below (Below.refl _ _).drew) (by first | exact (HB2.out.alloc hs2 _) | exact HB2.out.drew.alloc hs2 _ | exact (HB2.out.alloc hs2 _).drew)).mono ?_; rintro en w4 ⟨rfl, hz2, hg2⟩; have hb2 := news_below (W0 := W0) (by first | exact (HB2.out.alloc hs2 _) | exact HB2.out.drew.alloc hs2 _ | exact (HB2.out.alloc hs2 _).drew) hs2 hg2; obtain ⟨⟨p0, p1, _, _, p2⟩, ⟨t0, t1, t2, t3, t4⟩, hx1, hbw⟩ := stay.out w4 hb2; have HX2 := Lib.hid hx1; have HB4 := Lib.hid hbw; have HZ2 := Lib.hid hz2; clear hz2 hg2 hb2 hx1 hbw))
    all_goals go_wp2
    all_goals
      first
        | (have hst := storedN (e := IntKind.i64.wrap (e + IntKind.i64.wrap (t : Int))) HX2.out HB4.out (by omega) HZ2.out
           exact bodyPost_ret (results_single rfl (.cell (w.heap.size + 1) 71 #[.pointer (some ⟨_, 0, none⟩), .int .i64 (IntKind.i64.wrap (e + IntKind.i64.wrap (t : Int)))] (0, 0) _ rfl hst.1 Try.underlying71 rfl sizeN .nil)) rfl ⟨_, by rw [HE.out], hst.2.1, hst.2.2⟩)
theorem sizeD : (Try.prog.info? 31).map (·.size) = some 3 := by kernel_rfl
def GivesD (w : World) (s : Int) (l : List Int) (x c : Int) (e : Ending) (w' : World) : Prop :=
  ∃ u, e = .returned (.tuple #[.agg #[.int .i64 s, u, .int .i64 x], .int .i64 c]) ∧ Kd.R (Kd.int .i64) 2 w' w.heap.size (fun _ => True) u l ∧ Below w.heap.size w w'
theorem storedD {w W : World} {g : Nat} {s x : Int} {u : Value} {l : List Int} (hg : W.heap[g]? = some (.cells #[.int .i64 0, .slice none 0 0, .int .i64 0] 31 (0, 0))) (hb : Below w.heap.size w W) (hw : w.heap.size ≤ g) (hR : Kd.R (Kd.int .i64) 2 W w.heap.size (fun _ => True) u l) :
    (((W.setCell ⟨g, 0, none⟩ (.int .i64 s)).setCell ⟨g, 1, none⟩ u).setCell ⟨g, 2, none⟩ (.int .i64 x)).heap[g]? = some (.cells #[.int .i64 s, u, .int .i64 x] 31 (0, 0)) ∧ Kd.R (Kd.int .i64) 2 (((W.setCell ⟨g, 0, none⟩ (.int .i64 s)).setCell ⟨g, 1, none⟩ u).setCell ⟨g, 2, none⟩ (.int .i64 x)) w.heap.size (fun _ => True) u l ∧ Below w.heap.size w (((W.setCell ⟨g, 0, none⟩ (.int .i64 s)).setCell ⟨g, 1, none⟩ u).setCell ⟨g, 2, none⟩ (.int .i64 x)) :=
  ⟨blk_set (blk_set (blk_set hg 0 _) 1 _) 2 _, Kd.R_set (Kd.R_set (Kd.R_set hR hg (by decide) 0 _) (blk_set hg 0 _) (by decide) 1 _) (blk_set (blk_set hg 0 _) 1 _) (by decide) 2 _, ((hb.setCell (p := ⟨g, 0, none⟩) hw _).setCell (p := ⟨g, 1, none⟩) hw _).setCell (p := ⟨g, 2, none⟩) hw _⟩
theorem cellsD {W : World} {g : Nat} {u v x : Value} {t : Nat} (hg : W.heap[g]? = some (.cells #[u, v, x] t (0, 0))) : W.cell? ⟨g, 0, none⟩ = some u ∧ W.cell? ⟨g, 1, none⟩ = some v ∧ W.cell? ⟨g, 2, none⟩ = some x ∧ W.frozen? ⟨g, 0, none⟩ = false ∧ W.frozen? ⟨g, 1, none⟩ = false ∧ W.frozen? ⟨g, 2, none⟩ = false ∧ g < W.heap.size :=
  ⟨kcq hg 0, kcq hg 1, kcq hg 2, kfq hg 0, kfq hg 1, kfq hg 2, (Array.getElem?_eq_some_iff.1 hg).1⟩
set_option maxHeartbeats 800000 in
theorem numberOf {w : World} {s e : Int} {A : Option Addr} {c : Nat} {l : List Int} (hC : (Kd.int .i64).C w A l.length l) (h : isW s l = true) :
    Calls Try.prog 89 #[.agg #[.int .i64 s, .slice A l.length c, .int .i64 e]] w (GivesN w (wv s l) e) := by
  obtain ⟨W0, hW0⟩ : ∃ W0, W0 = (w.alloc (.cells #[.int .i64 s, .slice A l.length c, .int .i64 e] 31)).alloc (.cells #[.pointer none, .int .i64 0] 71) := ⟨_, rfl⟩
  obtain ⟨hb0, hx0, hx1, hs0⟩ := boxes2 w (.cells #[.int .i64 s, .slice A l.length c, .int .i64 e] 31) (.cells #[.pointer none, .int .i64 0] 71) W0 (by rw [hW0]; exact Below.refl _ _)
  have HN := Lib.hid (fun (W : World) (hb : Below W0.heap.size W0 W) => cBig (c := c) (C_at (C_at hC hb0) hb) h)
  have HB0 := Lib.hid hb0
  have HX0 := Lib.hid hx0
  have HX1 := Lib.hid hx1
  have HW := Lib.hid hW0
  obtain ⟨c0, c1, c2, _, _, _, l0⟩ := cellsD hx0
  obtain ⟨d0, d1, f0, f1, l1⟩ := cellsN hx1
  clear hC h hb0 hx0 hx1 hW0
  generalize l.length = n at *
  go_enter Try.func89, Try.ntmps89
  go_wp2_with fail
  rw [← HW.out]
  clear HW
  go_region_held3 (fun w' => w'.cell? ⟨w.heap.size, 0, none⟩ = some (.int .i64 s) ∧ w'.cell? ⟨w.heap.size, 1, none⟩ = some (.slice A n c) ∧ w'.cell? ⟨w.heap.size, 2, none⟩ = some (.int .i64 e)) (go_keep)
    (first | (go_at_call 84; refine (HN.out _ (by first | exact Below.refl _ _ | exact (Below.refl _ _).drew)).mono ?_; rintro en w2 ⟨g, rfl, hz2, hg2, hb'⟩; have hb2 := below_then (show Below W0.heap.size W0 _ by first | exact Below.refl _ _ | exact (Below.refl _ _).drew) hb'; have hx0 := (hb2.block _ l0).trans HX0.out; have hx1 := (hb2.block _ l1).trans HX1.out; obtain ⟨a0, a1, a2, _, _, _, k0⟩ := cellsD hx0; obtain ⟨b0, b1, g0, g1, k1⟩ := cellsN hx1; have HX2 := Lib.hid hx1; have HB2 := Lib.hid (HB0.out.trans (hb2.mono (Nat.le_trans (by omega) hs0))); have HZ2 := Lib.hid hz2; clear hz2 hg2 hb2 hb' hx0 hx1))
  all_goals go_wp2
  all_goals
    have hst := storedN (e := e) HX2.out HB2.out (by omega) HZ2.out
    exact bodyPost_ret (results_single rfl (.cell (w.heap.size + 1) 71 #[.pointer (some ⟨_, 0, none⟩), .int .i64 e] (0, 0) _ rfl hst.1 Try.underlying71 rfl sizeN .nil)) rfl ⟨_, rfl, hst.2.1, hst.2.2⟩
end Go.Proofs.Ytdboepiobaehkaa.Nd
end
section
set_option linter.unusedVariables false
set_option linter.unusedSimpArgs false
namespace Go.Proofs.Ytdboepiobaehkaa.Nf
open Go.RowKit Go.Proofs.YtdboepiobaehkaaW.PrintWords Go.Proofs.Ytdboepiobaehkaa.PW Go.Proofs.Ytdboepiobaehkaa.Pc Go.Proofs.Ytdboepiobaehkaa.Pb Go.Proofs.Ytdboepiobaehkaa.Pw Go.Proofs.Ytdboepiobaehkaa.Ma Go.Proofs.Ytdboepiobaehkaa.Mb Go.Proofs.Ytdboepiobaehkaa.Mc Go.Proofs.Ytdboepiobaehkaa.Md Go.Proofs.Ytdboepiobaehkaa.Me Go.Proofs.Ytdboepiobaehkaa.Mn Go.Proofs.Ytdboepiobaehkaa.Mo Go.Proofs.Ytdboepiobaehkaa.Mu Go.Proofs.Ytdboepiobaehkaa.Na Go.Proofs.Ytdboepiobaehkaa.Nd Go.Proofs.Ytdboepiobaehkaa.Qa Dg
open Pm (sgn)
theorem oddz_abs (z : Int) : (oddz z).natAbs = z.natAbs / 2 ^ tz z.natAbs ∧ sgn (oddz z) = sgn z := by
  unfold oddz
  by_cases h0 : z = 0
  · subst h0; simp
  · have hn : z.natAbs ≠ 0 := by omega
    have ho := tz_odd hn
    have hd := (tz_dvd (k := tz z.natAbs) hn).2 (Nat.le_refl _)
    have hf := St.fdiv_neg z.natAbs (tz z.natAbs) hn
    rw [if_pos hd] at hf
    have e : ((2 : Int) ^ tz z.natAbs) = ((2 ^ tz z.natAbs : Nat) : Int) := by simp
    by_cases hz : z < 0
    · have e1 : -((z.natAbs : Nat) : Int) = z := by omega
      rw [e1] at hf
      rw [hf]
      generalize z.natAbs / 2 ^ tz z.natAbs = m at *
      refine ⟨by omega, ?_⟩
      unfold Pm.sgn
      rw [if_pos (by omega), if_pos hz]
    · have e1 : z = ((z.natAbs : Nat) : Int) := by omega
      have e2 : z / 2 ^ tz z.natAbs = ((z.natAbs / 2 ^ tz z.natAbs : Nat) : Int) := by
        rw [e]
        conv => lhs; arg 1; rw [e1]
        rfl
      rw [e2]
      generalize z.natAbs / 2 ^ tz z.natAbs = m at *
      refine ⟨by omega, ?_⟩
      unfold Pm.sgn
      rw [if_neg (by omega), if_neg (by omega), if_neg hz, if_neg h0]
theorem fitD_eq (z e : Int) : fitD z e = if bl (oddz z).natAbs ≤ 2400 ∧ -3000 ≤ odde z e ∧ odde z e ≤ 3000 then (sgn (oddz z), L (oddz z).natAbs, odde z e, 0) else (0, [], 0, 3) := by
  obtain ⟨h1, h2⟩ := oddz_abs z
  rw [h1, h2]
  unfold fitD odde
  by_cases h0 : z = 0
  · subst h0
    rw [if_pos rfl, if_pos rfl, if_pos (by simp [bl])]
    simp [Pm.sgn, L_zero]
  · rw [if_neg h0, if_neg h0]
theorem restoredN {w W : World} {g q p : Nat} {z e : Int} {f : Int} (hg : W.heap[g]? = some (.cells #[.pointer (some ⟨p, 0, none⟩), .int .i64 f] 71 (0, 0))) (hb : Below w.heap.size w W) (hw : w.heap.size ≤ g) (hz : Z W q z) :
    ((W.setCell ⟨g, 0, none⟩ (.pointer (some ⟨q, 0, none⟩))).setCell ⟨g, 1, none⟩ (.int .i64 e)).heap[g]? = some (.cells #[.pointer (some ⟨q, 0, none⟩), .int .i64 e] 71 (0, 0)) ∧ Z ((W.setCell ⟨g, 0, none⟩ (.pointer (some ⟨q, 0, none⟩))).setCell ⟨g, 1, none⟩ (.int .i64 e)) q z ∧ Below w.heap.size w ((W.setCell ⟨g, 0, none⟩ (.pointer (some ⟨q, 0, none⟩))).setCell ⟨g, 1, none⟩ (.int .i64 e)) :=
  ⟨blk_set (blk_set hg 0 _) 1 _, zset (zset hz hg (by decide) (two_cells (fun x => by simp) (fun x => by simp)) 0 _) (blk_set hg 0 (.pointer (some ⟨q, 0, none⟩))) (by decide) (two_cells (fun x => by simp) (fun x => by simp)) 1 _, (hb.setCell (p := ⟨g, 0, none⟩) hw _).setCell (p := ⟨g, 1, none⟩) hw _⟩
theorem storedDA {w W : World} {g : Nat} {s x : Int} {u : Value} {l : List Int} (o : Obj) (hg : W.heap[g]? = some (.cells #[.int .i64 0, .slice none 0 0, .int .i64 0] 31 (0, 0))) (hb : Below w.heap.size w W) (hw : w.heap.size ≤ g) (hR : Kd.R (Kd.int .i64) 2 W w.heap.size (fun _ => True) u l) :
    ((((W.setCell ⟨g, 0, none⟩ (.int .i64 s)).setCell ⟨g, 1, none⟩ u).setCell ⟨g, 2, none⟩ (.int .i64 x)).alloc o).heap[g]? = some (.cells #[.int .i64 s, u, .int .i64 x] 31 (0, 0)) ∧ Kd.R (Kd.int .i64) 2 ((((W.setCell ⟨g, 0, none⟩ (.int .i64 s)).setCell ⟨g, 1, none⟩ u).setCell ⟨g, 2, none⟩ (.int .i64 x)).alloc o) w.heap.size (fun _ => True) u l ∧ Below w.heap.size w ((((W.setCell ⟨g, 0, none⟩ (.int .i64 s)).setCell ⟨g, 1, none⟩ u).setCell ⟨g, 2, none⟩ (.int .i64 x)).alloc o) := by
  have hst := storedD (s := s) (x := x) hg hb hw hR
  exact ⟨((Ma.waq _ o).block _ (Array.getElem?_eq_some_iff.1 hst.1).1).trans hst.1, Kd.R_below hst.2.1 (Ma.waq _ o), below_then hst.2.2 (Ma.waq _ o)⟩
set_option maxRecDepth 20000 in
set_option maxHeartbeats 1600000 in
theorem ndyadic {w : World} {q : Nat} {z e : Int} (hz : Z w q z) (hb : bl z.natAbs ≤ 268435456) (h1 : -1000000 ≤ e) (h2 : e ≤ 1000000) :
    Calls Try.prog 76 #[.agg #[.pointer (some ⟨q, 0, none⟩), .int .i64 e]] w (GivesD w (fitD z e).1 (fitD z e).2.1 (fitD z e).2.2.1 (fitD z e).2.2.2) := by
  obtain ⟨W0, hW0⟩ : ∃ W0, W0 = (w.alloc (.cells #[.pointer (some ⟨q, 0, none⟩), .int .i64 e] 71)).alloc (.cells #[.int .i64 0, .slice none 0 0, .int .i64 0] 31) := ⟨_, rfl⟩
  obtain ⟨hb0, hx0, hx1, hs0⟩ := boxes2 w (.cells #[.pointer (some ⟨q, 0, none⟩), .int .i64 e] 71) (.cells #[.int .i64 0, .slice none 0 0, .int .i64 0] 31) W0 (by rw [hW0]; exact Below.refl _ _)
  obtain ⟨c0, c1, cf0, cf1, l0⟩ := cellsN hx0
  obtain ⟨d0, d1, d2, f0, f1, f2, l1⟩ := cellsD hx1
  have HO := Lib.hid (nodd (hz.below hb0) hb h1 h2)
  have HX0 := Lib.hid hx0
  have HX1 := Lib.hid hx1
  have HB0 := Lib.hid hb0
  have HW := Lib.hid hW0
  have hbo : bl (oddz z).natAbs ≤ 268435456 := by
    rw [(oddz_abs z).1]
    have := bl_mono (Nat.div_le_self z.natAbs (2 ^ tz z.natAbs))
    omega
  rw [fitD_eq]
  have n0 : w.heap.size ≠ w.heap.size + 1 := by omega
  have n1 := Ne.symm n0
  clear hz hb hb0 hx0 hx1 hW0 h1 h2
  generalize oddz z = y at *
  generalize odde z e = x at *
  have step := Lib.hid (fun (w2 : World) (g : Nat) (hz2 : Z w2 g y) (hb2 : Below W0.heap.size W0 w2) => (⟨(restoredN (e := x) ((hb2.block _ l0).trans HX0.out) (HB0.out.trans (hb2.mono (Nat.le_trans (by omega) hs0))) (Nat.le_refl _) hz2), (Below.heap_setCell _ _ _ _ n1).trans ((Below.heap_setCell _ _ _ _ n1).trans ((hb2.block _ l1).trans HX1.out))⟩ : _ ∧ ((w2.setCell ⟨w.heap.size, 0, none⟩ (.pointer (some ⟨g, 0, none⟩))).setCell ⟨w.heap.size, 1, none⟩ (.int .i64 x)).heap[w.heap.size + 1]? = _))
  have cases : (bl y.natAbs ≤ 2400 ∧ -3000 ≤ x ∧ x ≤ 3000) ∨ (bl y.natAbs ≤ 2400 ∧ x < -3000) ∨ (bl y.natAbs ≤ 2400 ∧ 3000 < x) ∨ ¬ bl y.natAbs ≤ 2400 := by omega
  rcases cases with ⟨hL, x0, x1⟩ | ⟨hL, x0⟩ | ⟨hL, x0⟩ | hL
  · have HF := Lib.hid (fun (W : World) (g : Nat) (hz : Z W g y) => Mo.fromBig_yes hz hL)
    rw [if_pos ⟨hL, x0, x1⟩]
    clear hL hbo
    generalize sgn y = s at *
    generalize L y.natAbs = l at *
    go_enter Try.func76, Try.ntmps76
    go_upto_region 1 with fail
    rw [← HW.out]
    clear HW
    go_wp2_with fail
    refine HO.out.mono ?_
    rintro en w2 ⟨g, rfl, hz2, hb2⟩
    have hx0 := (hb2.block _ l0).trans HX0.out
    obtain ⟨p0, p1, p2, p3, k0⟩ := cellsN hx0
    obtain ⟨⟨h30, h31, h32⟩, h33⟩ := step.out w2 g hz2 hb2
    have HY0 := Lib.hid h30
    have HZ3 := Lib.hid h31
    have HB3 := Lib.hid h32
    have HY1 := Lib.hid h33
    clear hx0 hb2 hz2 h30 h31 h32 h33 step
    go_upto_region 2 with fail
    generalize hw3 : (w2.setCell ⟨w.heap.size, 0, none⟩ (.pointer (some ⟨g, 0, none⟩))).setCell ⟨w.heap.size, 1, none⟩ (.int .i64 x) = w3 at *
    clear hw3 p0 p1 p2 p3 k0
    obtain ⟨p0, p1, p2, p3, k0⟩ := cellsN HY0.out
    obtain ⟨r0, r1, r2, r3, r4, r5, k1⟩ := cellsD HY1.out
    go_wp2_with fail
    refine (HF.out w3 g HZ3.out).mono ?_
    rintro en w4 ⟨u, rfl, hR, hb4⟩
    obtain ⟨A, c, rfl⟩ := Kd.R_slice hR
    have hx0 := (hb4.block _ k0).trans HY0.out
    have hx1 := (hb4.block _ k1).trans HY1.out
    have hs4 := hb4.size
    clear p0 p1 p2 p3 r0 r1 r2 r3 r4 r5
    obtain ⟨p0, p1, p2, p3, m0⟩ := cellsN hx0
    obtain ⟨r0, r1, r2, r3, r4, r5, m1⟩ := cellsD hx1
    have HV1 := Lib.hid hx1
    have HR := Lib.hid (Kd.R_lower (base' := w.heap.size) hR (Nat.le_of_lt k0))
    have HB4 := Lib.hid (HB3.out.trans (hb4.mono (Nat.le_of_lt k0)))
    clear hx0 hx1 hR hb4 HZ3 HB3 HY0 HY1
    go_wp2
    have hst := storedDA (s := s) (x := x) (.cells #[.int .i64 s, .slice A l.length c] 29) HV1.out HB4.out (by omega) HR.out
    exact bodyPost_ret (results_ct rfl _ _ (w.heap.size + 1) 31 #[.int .i64 s, .slice A l.length c, .int .i64 x] (0, 0) _ rfl hst.1 Try.underlying31 rfl sizeD) rfl ⟨_, rfl, hst.2.1, hst.2.2⟩
  · have HF := Lib.hid (fun (W : World) (g : Nat) (hz : Z W g y) => Mo.fromBig_yes hz hL)
    rw [if_neg (show ¬ (bl y.natAbs ≤ 2400 ∧ -3000 ≤ x ∧ x ≤ 3000) from fun h => by omega)]
    clear hL hbo
    generalize sgn y = s at *
    generalize L y.natAbs = l at *
    go_enter Try.func76, Try.ntmps76
    go_upto_region 1 with fail
    rw [← HW.out]
    clear HW
    go_wp2_with fail
    refine HO.out.mono ?_
    rintro en w2 ⟨g, rfl, hz2, hb2⟩
    have hx0 := (hb2.block _ l0).trans HX0.out
    obtain ⟨p0, p1, p2, p3, k0⟩ := cellsN hx0
    obtain ⟨⟨h30, h31, h32⟩, h33⟩ := step.out w2 g hz2 hb2
    have HY0 := Lib.hid h30
    have HZ3 := Lib.hid h31
    have HB3 := Lib.hid h32
    have HY1 := Lib.hid h33
    clear hx0 hb2 hz2 h30 h31 h32 h33 step
    go_upto_region 2 with fail
    generalize hw3 : (w2.setCell ⟨w.heap.size, 0, none⟩ (.pointer (some ⟨g, 0, none⟩))).setCell ⟨w.heap.size, 1, none⟩ (.int .i64 x) = w3 at *
    clear hw3 p0 p1 p2 p3 k0
    obtain ⟨p0, p1, p2, p3, k0⟩ := cellsN HY0.out
    obtain ⟨r0, r1, r2, r3, r4, r5, k1⟩ := cellsD HY1.out
    go_wp2_with fail
    refine (HF.out w3 g HZ3.out).mono ?_
    rintro en w4 ⟨u, rfl, hR, hb4⟩
    obtain ⟨A, c, rfl⟩ := Kd.R_slice hR
    have hx0 := (hb4.block _ k0).trans HY0.out
    have hx1 := (hb4.block _ k1).trans HY1.out
    have hs4 := hb4.size
    clear p0 p1 p2 p3 r0 r1 r2 r3 r4 r5
    obtain ⟨p0, p1, p2, p3, m0⟩ := cellsN hx0
    obtain ⟨r0, r1, r2, r3, r4, r5, m1⟩ := cellsD hx1
    have HV1 := Lib.hid hx1
    have HR := Lib.hid (Kd.R_nil (Kd.int .i64) 2 w4 w.heap.size (fun _ => True))
    have HB4 := Lib.hid (HB3.out.trans (hb4.mono (Nat.le_of_lt k0)))
    clear hx0 hx1 hR hb4 HZ3 HB3 HY0 HY1
    go_wp2
    have hst := storedDA (s := 0) (x := 0) (.cells #[.int .i64 s, .slice A l.length c] 29) HV1.out HB4.out (by omega) HR.out
    exact bodyPost_ret (results_ct rfl _ _ (w.heap.size + 1) 31 #[.int .i64 0, .slice none 0 0, .int .i64 0] (0, 0) _ rfl hst.1 Try.underlying31 rfl sizeD) rfl ⟨_, rfl, hst.2.1, hst.2.2⟩
  · have HF := Lib.hid (fun (W : World) (g : Nat) (hz : Z W g y) => Mo.fromBig_yes hz hL)
    rw [if_neg (show ¬ (bl y.natAbs ≤ 2400 ∧ -3000 ≤ x ∧ x ≤ 3000) from fun h => by omega)]
    clear hL hbo
    generalize sgn y = s at *
    generalize L y.natAbs = l at *
    go_enter Try.func76, Try.ntmps76
    go_upto_region 1 with fail
    rw [← HW.out]
    clear HW
    go_wp2_with fail
    refine HO.out.mono ?_
    rintro en w2 ⟨g, rfl, hz2, hb2⟩
    have hx0 := (hb2.block _ l0).trans HX0.out
    obtain ⟨p0, p1, p2, p3, k0⟩ := cellsN hx0
    obtain ⟨⟨h30, h31, h32⟩, h33⟩ := step.out w2 g hz2 hb2
    have HY0 := Lib.hid h30
    have HZ3 := Lib.hid h31
    have HB3 := Lib.hid h32
    have HY1 := Lib.hid h33
    clear hx0 hb2 hz2 h30 h31 h32 h33 step
    go_upto_region 2 with fail
    generalize hw3 : (w2.setCell ⟨w.heap.size, 0, none⟩ (.pointer (some ⟨g, 0, none⟩))).setCell ⟨w.heap.size, 1, none⟩ (.int .i64 x) = w3 at *
    clear hw3 p0 p1 p2 p3 k0
    obtain ⟨p0, p1, p2, p3, k0⟩ := cellsN HY0.out
    obtain ⟨r0, r1, r2, r3, r4, r5, k1⟩ := cellsD HY1.out
    go_wp2_with fail
    refine (HF.out w3 g HZ3.out).mono ?_
    rintro en w4 ⟨u, rfl, hR, hb4⟩
    obtain ⟨A, c, rfl⟩ := Kd.R_slice hR
    have hx0 := (hb4.block _ k0).trans HY0.out
    have hx1 := (hb4.block _ k1).trans HY1.out
    have hs4 := hb4.size
    clear p0 p1 p2 p3 r0 r1 r2 r3 r4 r5
    obtain ⟨p0, p1, p2, p3, m0⟩ := cellsN hx0
    obtain ⟨r0, r1, r2, r3, r4, r5, m1⟩ := cellsD hx1
    have HV1 := Lib.hid hx1
    have HR := Lib.hid (Kd.R_nil (Kd.int .i64) 2 w4 w.heap.size (fun _ => True))
    have HB4 := Lib.hid (HB3.out.trans (hb4.mono (Nat.le_of_lt k0)))
    clear hx0 hx1 hR hb4 HZ3 HB3 HY0 HY1
    go_wp2
    have hst := storedDA (s := 0) (x := 0) (.cells #[.int .i64 s, .slice A l.length c] 29) HV1.out HB4.out (by omega) HR.out
    exact bodyPost_ret (results_ct rfl _ _ (w.heap.size + 1) 31 #[.int .i64 0, .slice none 0 0, .int .i64 0] (0, 0) _ rfl hst.1 Try.underlying31 rfl sizeD) rfl ⟨_, rfl, hst.2.1, hst.2.2⟩
  · have HF := Lib.hid (fun (W : World) (g : Nat) (hz : Z W g y) => Mn.fromBig_no hz hbo hL)
    rw [if_neg (show ¬ (bl y.natAbs ≤ 2400 ∧ -3000 ≤ x ∧ x ≤ 3000) from fun h => hL h.1)]
    clear hL hbo
    go_enter Try.func76, Try.ntmps76
    go_upto_region 1 with fail
    rw [← HW.out]
    clear HW
    go_wp2_with fail
    refine HO.out.mono ?_
    rintro en w2 ⟨g, rfl, hz2, hb2⟩
    have hx0 := (hb2.block _ l0).trans HX0.out
    obtain ⟨p0, p1, p2, p3, k0⟩ := cellsN hx0
    obtain ⟨⟨h30, h31, h32⟩, h33⟩ := step.out w2 g hz2 hb2
    have HY0 := Lib.hid h30
    have HZ3 := Lib.hid h31
    have HB3 := Lib.hid h32
    have HY1 := Lib.hid h33
    clear hx0 hb2 hz2 h30 h31 h32 h33 step
    go_upto_region 2 with fail
    generalize hw3 : (w2.setCell ⟨w.heap.size, 0, none⟩ (.pointer (some ⟨g, 0, none⟩))).setCell ⟨w.heap.size, 1, none⟩ (.int .i64 x) = w3 at *
    clear hw3 p0 p1 p2 p3 k0
    obtain ⟨p0, p1, p2, p3, k0⟩ := cellsN HY0.out
    obtain ⟨r0, r1, r2, r3, r4, r5, k1⟩ := cellsD HY1.out
    go_wp2_with fail
    refine (HF.out w3 g HZ3.out).mono ?_
    rintro en w4 ⟨u, rfl, hR, hb4⟩
    obtain ⟨A, c, rfl⟩ := Kd.R_slice hR
    have hx0 := (hb4.block _ k0).trans HY0.out
    have hx1 := (hb4.block _ k1).trans HY1.out
    have hs4 := hb4.size
    clear p0 p1 p2 p3 r0 r1 r2 r3 r4 r5
    obtain ⟨p0, p1, p2, p3, m0⟩ := cellsN hx0
    obtain ⟨r0, r1, r2, r3, r4, r5, m1⟩ := cellsD hx1
    have HV1 := Lib.hid hx1
    have HR := Lib.hid (Kd.R_nil (Kd.int .i64) 2 w4 w.heap.size (fun _ => True))
    have HB4 := Lib.hid (HB3.out.trans (hb4.mono (Nat.le_of_lt k0)))
    clear hx0 hx1 hR hb4 HZ3 HB3 HY0 HY1
    go_wp2
    have hst := storedDA (s := 0) (x := 0) (.cells #[.int .i64 0, .slice A 0 c] 29) HV1.out HB4.out (by omega) HR.out
    exact bodyPost_ret (results_ct rfl _ _ (w.heap.size + 1) 31 #[.int .i64 0, .slice none 0 0, .int .i64 0] (0, 0) _ rfl hst.1 Try.underlying31 rfl sizeD) rfl ⟨_, rfl, hst.2.1, hst.2.2⟩
end Go.Proofs.Ytdboepiobaehkaa.Nf
end
section
set_option linter.unusedVariables false
set_option linter.unusedSimpArgs false
namespace Go.Proofs.Ytdboepiobaehkaa.Nc
open Go.RowKit Go.Proofs.YtdboepiobaehkaaW.PrintWords Go.Proofs.Ytdboepiobaehkaa.PW Go.Proofs.Ytdboepiobaehkaa.Pc Go.Proofs.Ytdboepiobaehkaa.Pb Go.Proofs.Ytdboepiobaehkaa.Pw Go.Proofs.Ytdboepiobaehkaa.Ma Go.Proofs.Ytdboepiobaehkaa.Mb Go.Proofs.Ytdboepiobaehkaa.Mc Go.Proofs.Ytdboepiobaehkaa.Md Go.Proofs.Ytdboepiobaehkaa.Me Go.Proofs.Ytdboepiobaehkaa.Mg Go.Proofs.Ytdboepiobaehkaa.Mh Go.Proofs.Ytdboepiobaehkaa.Mk Go.Proofs.Ytdboepiobaehkaa.Mn Go.Proofs.Ytdboepiobaehkaa.Mu Go.Proofs.Ytdboepiobaehkaa.Na Dg
open Pm (sgn)
theorem GivesN.of {w W w' : World} {z e : Int} {en : Ending} (hb : Below w.heap.size w W) (h : GivesN W z e en w') : GivesN w z e en w' := by
  obtain ⟨g, he, hz, hbl⟩ := h
  exact ⟨g, he, hz, below_then hb hbl⟩
set_option maxHeartbeats 800000 in
theorem nat {w : World} {q : Nat} {z e : Int} {k : Nat} {e2 : Int} (hz : Z w q z) (hk : e - e2 = (k : Int)) (h1 : bl z.natAbs ≤ 268435456) (h2 : k ≤ 268435456) :
    Calls Try.prog 153 #[.agg #[.pointer (some ⟨q, 0, none⟩), .int .i64 e], .int .i64 e2] w (News w (z * 2 ^ k)) := by
  obtain ⟨hb0, hx0, hs0⟩ := boxes1 w (.cells #[.pointer (some ⟨q, 0, none⟩), .int .i64 e] 71) (w.alloc (.cells #[.pointer (some ⟨q, 0, none⟩), .int .i64 e] 71)) (Below.refl _ _)
  obtain ⟨W0, hW0⟩ : ∃ W0, W0 = w.alloc (.cells #[.pointer (some ⟨q, 0, none⟩), .int .i64 e] 71) := ⟨_, rfl⟩
  rw [← hW0] at hb0 hx0 hs0
  have HL := Lib.hid (Md.lsh (n := k) (Z.new W0).blk ((hz.below hb0).below (Ma.waq W0 _)) h1 h2)
  have hkw : IntKind.u64.wrap (wrap64 (e - e2)) = (k : Int) := by rw [hk, IntKind.wrap_u64]; unfold wrap64; omega
  have HKW := Lib.hid hkw
  have HB0 := Lib.hid hb0
  have HW := Lib.hid hW0
  obtain ⟨c0, c1, _, _, l0⟩ := cellsN hx0
  clear hz hb0 hx0 hW0 h1 hkw hk h2
  go_enter Try.func153, Try.ntmps153
  go_upto_region 1 with fail
  rw [← HW.out]
  clear HW
  go_wp2_with fail
  rw [HKW.out]
  refine HL.out.mono ?_
  intro en w1 hp
  have hN := Lib.hid (Mc.Puts.news hp)
  obtain ⟨rfl, hz, hg⟩ := hp
  clear hz hg
  go_wp2
  go_ret
  obtain ⟨g, he, hz, hle, hb⟩ := hN.out
  exact ⟨g, he, hz, Nat.le_trans (by omega) hle, below_then HB0.out hb⟩
def addz (x e y f : Int) : Int := if x = 0 then y else if y = 0 then x else x * 2 ^ (e - min e f).toNat + y * 2 ^ (f - min e f).toNat
def adde (x e y f : Int) : Int := if x = 0 then f else if y = 0 then e else min e f
theorem sgn_eq0 {z : Int} : (sgn z = 0) = (z = 0) := by
  apply propext
  unfold Pm.sgn
  split
  · omega
  · split <;> omega
set_option maxRecDepth 20000 in
set_option maxHeartbeats 3200000 in
theorem nadd {w : World} {q s : Nat} {x y e f : Int} (hx : Z w q x) (hy : Z w s y) (hbx : bl x.natAbs ≤ 100000000) (hby : bl y.natAbs ≤ 100000000) (h1 : -1000000 ≤ e) (h2 : e ≤ 1000000) (h3 : -1000000 ≤ f) (h4 : f ≤ 1000000) :
    Calls Try.prog 100 #[.agg #[.pointer (some ⟨q, 0, none⟩), .int .i64 e], .agg #[.pointer (some ⟨s, 0, none⟩), .int .i64 f]] w (GivesN w (addz x e y f) (adde x e y f)) := by
  obtain ⟨W0, hW0⟩ : ∃ W0, W0 = ((w.alloc (.cells #[.pointer (some ⟨q, 0, none⟩), .int .i64 e] 71)).alloc (.cells #[.pointer (some ⟨s, 0, none⟩), .int .i64 f] 71)).alloc (.cells #[.pointer none, .int .i64 0] 71) := ⟨_, rfl⟩
  obtain ⟨hb0, hx0, hy0, hx1, hs0⟩ := boxes3 w (.cells #[.pointer (some ⟨q, 0, none⟩), .int .i64 e] 71) (.cells #[.pointer (some ⟨s, 0, none⟩), .int .i64 f] 71) (.cells #[.pointer none, .int .i64 0] 71) W0 (by rw [hW0]; exact Below.refl _ _)
  have zx := hx.below hb0
  have zy := hy.below hb0
  have HS := Lib.hid (fun (W : World) (hb : Below W0.heap.size W0 W) => nsign (e := e) (zx.below hb))
  have HT := Lib.hid (fun (W : World) (hb : Below W0.heap.size W0 W) => nsign (e := f) (zy.below hb))
  have HB0 := Lib.hid hb0
  have HX0 := Lib.hid hx0
  have HY0 := Lib.hid hy0
  have HX1 := Lib.hid hx1
  have HW := Lib.hid hW0
  have HZX := Lib.hid zx
  have HZY := Lib.hid zy
  obtain ⟨c0, c1, _, _, l0⟩ := cellsN hx0
  obtain ⟨e0, e1, _, _, m0⟩ := cellsN hy0
  obtain ⟨d0, d1, f0, f1, l1⟩ := cellsN hx1
  have n0 : w.heap.size ≠ w.heap.size + 1 + 1 := by omega
  have n1 := Ne.symm n0
  -- what stays after a call that makes memory
  have stay := Lib.hid (fun (W : World) (hb : Below W0.heap.size W0 W) => (⟨cellsN ((hb.block _ l0).trans hx0), cellsN ((hb.block _ m0).trans hy0), cellsN ((hb.block _ l1).trans hx1), (hb.block _ l1).trans hx1, hb0.trans (hb.mono (Nat.le_trans (by omega) hs0))⟩ : _ ∧ _ ∧ _ ∧ _ ∧ Below w.heap.size w W))
  clear hx hy hb0 hx0 hx1 hy0 hW0 zx zy
  by_cases hx00 : x = 0
  · have es : sgn x = 0 := by rw [sgn_eq0]; exact hx00
    have ez : addz x e y f = y := by unfold addz; rw [if_pos hx00]
    have ee : adde x e y f = f := by unfold adde; rw [if_pos hx00]
    rw [ez, ee]
    rw [es] at HS
    clear es ez ee hx00
    go_enter Try.func100, Try.ntmps100
    go_upto_region 1 with fail
    rw [← HW.out]
    clear HW
    go_wp2_with fail
    refine (HS.out W0 (Below.refl _ _)).mono ?_
    rintro en w1 ⟨rfl, hb1⟩
    obtain ⟨⟨p0, p1, _, _, p2⟩, ⟨r0, r1, _, _, r2⟩, ⟨t0, t1, t2, t3, t4⟩, hx1, hbw⟩ := stay.out w1 hb1
    have HX2 := Lib.hid hx1
    have HB2 := Lib.hid hbw
    have HZ2 := Lib.hid (HZY.out.below hb1)
    clear hx1 hbw hb1
    go_wp2
    have hst := storedN (e := f) HX2.out HB2.out (by omega) HZ2.out
    exact bodyPost_ret (results_single rfl (.cell (w.heap.size + 1 + 1) 71 #[.pointer (some ⟨s, 0, none⟩), .int .i64 f] (0, 0) _ rfl hst.1 Try.underlying71 rfl sizeN .nil)) rfl ⟨_, rfl, hst.2.1, hst.2.2⟩
  · have es : ¬ sgn x = 0 := by rw [sgn_eq0]; exact hx00
    generalize sgn x = sx at HS es
    by_cases hy00 : y = 0
    · have et : sgn y = 0 := by rw [sgn_eq0]; exact hy00
      have ez : addz x e y f = x := by unfold addz; rw [if_neg hx00, if_pos hy00]
      have ee : adde x e y f = e := by unfold adde; rw [if_neg hx00, if_pos hy00]
      rw [ez, ee]
      rw [et] at HT
      clear et ez ee hx00 hy00
      go_enter Try.func100, Try.ntmps100
      go_upto_region 1 with fail
      rw [← HW.out]
      clear HW
      go_wp2_with fail
      refine (HS.out W0 (Below.refl _ _)).mono ?_
      rintro en w1 ⟨rfl, hb1⟩
      obtain ⟨⟨p0, p1, _, _, p2⟩, ⟨r0, r1, _, _, r2⟩, ⟨t0, t1, t2, t3, t4⟩, hx1, hbw⟩ := stay.out w1 hb1
      have HB1 := Lib.hid hb1
      clear hx1 hbw hb1
      go_wp2_with fail
      refine (HT.out w1 HB1.out).mono ?_
      rintro en w2 ⟨rfl, hb2⟩
      have hb12 := below_then HB1.out hb2
      clear p0 p1 p2 r0 r1 r2 t0 t1 t2 t3 t4 HB1 hb2
      obtain ⟨⟨p0, p1, _, _, p2⟩, ⟨r0, r1, _, _, r2⟩, ⟨t0, t1, t2, t3, t4⟩, hx1, hbw⟩ := stay.out w2 hb12
      have HX2 := Lib.hid hx1
      have HB2 := Lib.hid hbw
      have HZ2 := Lib.hid (HZX.out.below hb12)
      clear hx1 hbw hb12
      go_wp2
      have hst := storedN (e := e) HX2.out HB2.out (by omega) HZ2.out
      exact bodyPost_ret (results_single rfl (.cell (w.heap.size + 1 + 1) 71 #[.pointer (some ⟨q, 0, none⟩), .int .i64 e] (0, 0) _ rfl hst.1 Try.underlying71 rfl sizeN .nil)) rfl ⟨_, rfl, hst.2.1, hst.2.2⟩
    · have et : ¬ sgn y = 0 := by rw [sgn_eq0]; exact hy00
      generalize sgn y = sy at HT et
      have ez : addz x e y f = x * 2 ^ (e - min e f).toNat + y * 2 ^ (f - min e f).toNat := by unfold addz; rw [if_neg hx00, if_neg hy00]
      have ee : adde x e y f = min e f := by unfold adde; rw [if_neg hx00, if_neg hy00]
      rw [ez, ee]
      clear ez ee hx00 hy00
      obtain ⟨m, hm⟩ : ∃ m, m = min e f := ⟨_, rfl⟩
      obtain ⟨kx, hkx⟩ : ∃ k : Nat, k = (e - min e f).toNat := ⟨_, rfl⟩
      obtain ⟨ky, hky⟩ : ∃ k : Nat, k = (f - min e f).toNat := ⟨_, rfl⟩
      rw [← hkx, ← hky, ← hm]
      have bx : bl (x * 2 ^ kx).natAbs ≤ 200000000 := by
        rw [Int.natAbs_mul, show ((2 : Int) ^ kx).natAbs = 2 ^ kx by rw [Int.natAbs_pow]; rfl]
        have := bl_shift_le x.natAbs kx
        omega
      have by_ : bl (y * 2 ^ ky).natAbs ≤ 200000000 := by
        rw [Int.natAbs_mul, show ((2 : Int) ^ ky).natAbs = 2 ^ ky by rw [Int.natAbs_pow]; rfl]
        have := bl_shift_le y.natAbs ky
        omega
      have HA := Lib.hid (fun (W : World) (hb : Below W0.heap.size W0 W) => nat (e2 := m) (k := kx) (HZX.out.below hb) (e := e) (by omega) (by omega) (by omega))
      have HC := Lib.hid (fun (W : World) (hb : Below W0.heap.size W0 W) => nat (e2 := m) (k := ky) (HZY.out.below hb) (e := f) (by omega) (by omega) (by omega))
      have HP := Lib.hid (fun (W : World) (p g g4 : Nat) (hp : Blk W p) (hz : Z W g (x * 2 ^ kx)) (hz4 : Z W g4 (y * 2 ^ ky)) => Mj.add hp hz hz4 (by omega) (by omega))
      have HM := Lib.hid hm
      have HKX := Lib.hid hkx
      have HKY := Lib.hid hky
      generalize x * 2 ^ kx = xx at *
      generalize y * 2 ^ ky = yy at *
      have hmin : min e f = m := hm.symm
      clear hm hkx hky bx by_ hbx hby
      have hle : (e ≤ f ∧ e = m) ∨ (f < e ∧ f = m) := by omega
      clear hmin
      rcases hle with ⟨hle, rfl⟩ | ⟨hle, rfl⟩
      all_goals
       go_enter Try.func100, Try.ntmps100
       go_upto_region 1 with fail
       rw [← HW.out]
       clear HW
       go_wp2_with fail
       refine (HS.out W0 (Below.refl _ _)).mono ?_
       rintro en w1 ⟨rfl, hb1⟩
       obtain ⟨⟨p0, p1, _, _, p2⟩, ⟨r0, r1, _, _, r2⟩, ⟨t0, t1, t2, t3, t4⟩, hx1, hbw⟩ := stay.out w1 hb1
       have HB1 := Lib.hid hb1
       clear hx1 hbw hb1
       go_wp2_with fail
       refine (HT.out w1 HB1.out).mono ?_
       rintro en w2 ⟨rfl, hb2⟩
       have hb12 := below_then HB1.out hb2
       clear p0 p1 p2 r0 r1 r2 t0 t1 t2 t3 t4 HB1 hb2
       obtain ⟨⟨p0, p1, _, _, p2⟩, ⟨r0, r1, _, _, r2⟩, ⟨t0, t1, t2, t3, t4⟩, hx1, hbw⟩ := stay.out w2 hb12
       have HB2 := Lib.hid hb12
       clear hx1 hbw hb12
       have hs2 := HB2.out.size
       go_wp2_with fail
       all_goals
         go_region_held3 (fun w' => w'.cell? ⟨w.heap.size, 0, none⟩ = some (.pointer (some ⟨q, 0, none⟩)) ∧ w'.cell? ⟨w.heap.size, 1, none⟩ = some (.int .i64 e) ∧ w'.cell? ⟨w.heap.size + 1, 0, none⟩ = some (.pointer (some ⟨s, 0, none⟩)) ∧ w'.cell? ⟨w.heap.size + 1, 1, none⟩ = some (.int .i64 f)) (go_keep)
           (first
             | (go_at_call 153; refine (HA.out _ (by first | exact HB2.out.drew | exact (HB2.out.alloc hs2 _).drew | exact HB2.out.drew.alloc hs2 _)).mono ?_; rintro en w3 ⟨g, rfl, hz, hg, hb⟩; have hX := below_then (show Below W0.heap.size W0 _ by first | exact HB2.out.drew | exact (HB2.out.alloc hs2 _).drew | exact HB2.out.drew.alloc hs2 _) hb; have hs3 := hX.size; obtain ⟨⟨p0, p1, _, _, p2⟩, ⟨r0, r1, _, _, r2⟩, ⟨t0, t1, t2, t3, t4⟩, hx1, hbw⟩ := stay.out w3 hX; have HX3 := Lib.hid hX; have HZ := Lib.hid hz; have HK3 := Lib.hid (fun p (hp : Blk _ p) => hp.below hb); clear hz hg hb hX hx1 hbw HA)
             | (go_at_call 153; refine (HC.out _ (by first | exact HX3.out | exact HX3.out.alloc hs3 _)).mono ?_; rintro en w4 ⟨g4, rfl, hz, hg, hb⟩; have hX := below_then (show Below W0.heap.size W0 _ by first | exact HX3.out | exact HX3.out.alloc hs3 _) hb; have hs4 := hX.size; obtain ⟨⟨p0, p1, _, _, p2⟩, ⟨r0, r1, _, _, r2⟩, ⟨t0, t1, t2, t3, t4⟩, hx1, hbw⟩ := stay.out w4 hX; have HX4 := Lib.hid hX; have HZ1 := Lib.hid (show Z w4 g xx from (by first | exact HZ.out.below hb | exact (HZ.out.below (Ma.waq _ _)).below hb)); have HZ2 := Lib.hid hz; have HK4 := Lib.hid (fun p (hp : Blk _ p) => hp.below hb); clear hz hg hb hX hx1 hbw HC HZ)
             | (go_at_call 152; refine (HP.out _ _ _ _ (by first | exact HK4.out _ (HK3.out _ ((Z.new _).blk.below (Below.refl _ _).drew)) | exact HK4.out _ (HK3.out _ (Z.new _).blk) | exact HK4.out _ (Z.new _).blk | exact (Z.new _).blk) (by first | exact HZ1.out | exact HZ1.out.below (Ma.waq _ _)) (by first | exact HZ2.out | exact HZ2.out.below (Ma.waq _ _))).mono ?_; rintro en w5 ⟨rfl, hz, hg⟩; have hX := news_below (W0 := W0) (by first | exact HX4.out | exact HX4.out.alloc hs4 _) (by first | exact hs2 | exact hs3 | exact hs4 | (simp; omega)) hg; obtain ⟨⟨p0, p1, _, _, p2⟩, ⟨r0, r1, _, _, r2⟩, ⟨t0, t1, t2, t3, t4⟩, hx1, hbw⟩ := stay.out w5 hX; have HX5 := Lib.hid hx1; have HB5 := Lib.hid hbw; have HZ5 := Lib.hid hz; clear hz hg hX hx1 hbw HP))
         all_goals go_wp2
         all_goals
           first
             | (have hst := storedN (e := e) HX5.out HB5.out (by omega) HZ5.out
                exact bodyPost_ret (results_single rfl (.cell (w.heap.size + 1 + 1) 71 #[.pointer (some ⟨_, 0, none⟩), .int .i64 e] (0, 0) _ rfl hst.1 Try.underlying71 rfl sizeN .nil)) rfl ⟨_, rfl, hst.2.1, hst.2.2⟩)
             | (have hst := storedN (e := f) HX5.out HB5.out (by omega) HZ5.out
                exact bodyPost_ret (results_single rfl (.cell (w.heap.size + 1 + 1) 71 #[.pointer (some ⟨_, 0, none⟩), .int .i64 f] (0, 0) _ rfl hst.1 Try.underlying71 rfl sizeN .nil)) rfl ⟨_, rfl, hst.2.1, hst.2.2⟩)
end Go.Proofs.Ytdboepiobaehkaa.Nc
end
section
set_option linter.unusedVariables false
set_option linter.unusedSimpArgs false
namespace Go.Proofs.Ytdboepiobaehkaa.Ng
open Go.RowKit Go.Proofs.YtdboepiobaehkaaW.PrintWords Go.Proofs.Ytdboepiobaehkaa.PW Go.Proofs.Ytdboepiobaehkaa.Pc Go.Proofs.Ytdboepiobaehkaa.Pb Go.Proofs.Ytdboepiobaehkaa.Pw Go.Proofs.Ytdboepiobaehkaa.Ma Go.Proofs.Ytdboepiobaehkaa.Mh Go.Proofs.Ytdboepiobaehkaa.Mu Go.Proofs.Ytdboepiobaehkaa.Na Go.Proofs.Ytdboepiobaehkaa.Nd Go.Proofs.Ytdboepiobaehkaa.Qa Dg
theorem cID {w : World} {s e : Int} {A : Option Addr} {c : Nat} {l : List Int} (hC : (Kd.int .i64).C w A l.length l) (hc : l.length ≤ c) :
    Calls Try.prog 25 #[.agg #[.int .i64 s, .slice A l.length c, .int .i64 e]] w fun en w' => en = .returned (.bool (isD s l e)) ∧ Below w.heap.size w w' := by
  obtain ⟨k, hk⟩ := (idIs s l e hC.2.1).rounds
  exact impl_IsDyadic.calls k s A c l e _ w hC hc hk
def Three (w W : World) (s e : Int) (A : Option Addr) (n c : Nat) (s1 e1 : Int) (A1 : Option Addr) (n1 c1 : Nat) : Prop :=
  (W.cell? ⟨w.heap.size, 0, none⟩ = some (.int .i64 s) ∧ W.cell? ⟨w.heap.size, 1, none⟩ = some (.slice A n c) ∧ W.cell? ⟨w.heap.size, 2, none⟩ = some (.int .i64 e)) ∧
  (W.cell? ⟨w.heap.size + 1, 0, none⟩ = some (.int .i64 s1) ∧ W.cell? ⟨w.heap.size + 1, 1, none⟩ = some (.slice A1 n1 c1) ∧ W.cell? ⟨w.heap.size + 1, 2, none⟩ = some (.int .i64 e1)) ∧
  (W.cell? ⟨w.heap.size + 1 + 1, 0, none⟩ = some (.int .i64 0) ∧ W.cell? ⟨w.heap.size + 1 + 1, 1, none⟩ = some (.slice none 0 0) ∧ W.cell? ⟨w.heap.size + 1 + 1, 2, none⟩ = some (.int .i64 0) ∧ W.frozen? ⟨w.heap.size + 1 + 1, 0, none⟩ = false ∧ W.frozen? ⟨w.heap.size + 1 + 1, 1, none⟩ = false ∧ W.frozen? ⟨w.heap.size + 1 + 1, 2, none⟩ = false) ∧
  (w.heap.size < W.heap.size ∧ w.heap.size + 1 < W.heap.size ∧ w.heap.size + 1 + 1 < W.heap.size) ∧ W.heap[w.heap.size + 1 + 1]? = some (.cells #[.int .i64 0, .slice none 0 0, .int .i64 0] 31 (0, 0)) ∧ Below w.heap.size w W
theorem three (w : World) (s e : Int) (A : Option Addr) (n c : Nat) (s1 e1 : Int) (A1 : Option Addr) (n1 c1 : Nat) {W0 : World} (hW0 : W0 = ((w.alloc (.cells #[.int .i64 s, .slice A n c, .int .i64 e] 31)).alloc (.cells #[.int .i64 s1, .slice A1 n1 c1, .int .i64 e1] 31)).alloc (.cells #[.int .i64 0, .slice none 0 0, .int .i64 0] 31)) :
    Below w.heap.size w W0 ∧ ∀ W, Below W0.heap.size W0 W → Three w W s e A n c s1 e1 A1 n1 c1 := by
  obtain ⟨hb0, hx0, hx1, hx2, hs0⟩ := boxes3 w (.cells #[.int .i64 s, .slice A n c, .int .i64 e] 31) (.cells #[.int .i64 s1, .slice A1 n1 c1, .int .i64 e1] 31) (.cells #[.int .i64 0, .slice none 0 0, .int .i64 0] 31) W0 (by rw [hW0]; exact Below.refl _ _)
  refine ⟨hb0, fun W hb => ?_⟩
  have hy0 := (hb.block _ (by omega)).trans hx0
  have hy1 := (hb.block _ (by omega)).trans hx1
  have hy2 := (hb.block _ (by omega)).trans hx2
  obtain ⟨a0, a1, a2, a3, a4, a5, a6⟩ := cellsD hy0
  obtain ⟨b0, b1, b2, b3, b4, b5, b6⟩ := cellsD hy1
  obtain ⟨d0, d1, d2, d3, d4, d5, d6⟩ := cellsD hy2
  exact ⟨⟨a0, a1, a2⟩, ⟨b0, b1, b2⟩, ⟨d0, d1, d2, d3, d4, d5⟩, ⟨a6, b6, d6⟩, hy2, hb0.trans (hb.mono (Nat.le_trans (by omega) hs0))⟩
end Go.Proofs.Ytdboepiobaehkaa.Ng
end
section
set_option linter.unusedVariables false
set_option linter.unusedSimpArgs false
namespace Go.Proofs.Ytdboepiobaehkaa.Nh
open Go.RowKit Go.Proofs.YtdboepiobaehkaaW.PrintWords Go.Proofs.Ytdboepiobaehkaa.PW Go.Proofs.Ytdboepiobaehkaa.Pc Go.Proofs.Ytdboepiobaehkaa.Pb Go.Proofs.Ytdboepiobaehkaa.Pw Go.Proofs.Ytdboepiobaehkaa.Ma Go.Proofs.Ytdboepiobaehkaa.Mb Go.Proofs.Ytdboepiobaehkaa.Mc Go.Proofs.Ytdboepiobaehkaa.Md Go.Proofs.Ytdboepiobaehkaa.Me Go.Proofs.Ytdboepiobaehkaa.Mu Go.Proofs.Ytdboepiobaehkaa.Na Go.Proofs.Ytdboepiobaehkaa.Nc Dg
open Pm (sgn)
set_option maxRecDepth 20000 in
set_option maxHeartbeats 1600000 in
theorem nsub {w : World} {q s : Nat} {x y e f : Int} (hx : Z w q x) (hy : Z w s y) (hbx : bl x.natAbs ≤ 100000000) (hby : bl y.natAbs ≤ 100000000) (h1 : -1000000 ≤ e) (h2 : e ≤ 1000000) (h3 : -1000000 ≤ f) (h4 : f ≤ 1000000) :
    Calls Try.prog 102 #[.agg #[.pointer (some ⟨q, 0, none⟩), .int .i64 e], .agg #[.pointer (some ⟨s, 0, none⟩), .int .i64 f]] w (GivesN w (addz x e (-y) f) (adde x e (-y) f)) := by
  obtain ⟨W0, hW0⟩ : ∃ W0, W0 = ((w.alloc (.cells #[.pointer (some ⟨q, 0, none⟩), .int .i64 e] 71)).alloc (.cells #[.pointer (some ⟨s, 0, none⟩), .int .i64 f] 71)).alloc (.cells #[.pointer none, .int .i64 0] 71) := ⟨_, rfl⟩
  obtain ⟨hb0, hx0, hy0, hx1, hs0⟩ := boxes3 w (.cells #[.pointer (some ⟨q, 0, none⟩), .int .i64 e] 71) (.cells #[.pointer (some ⟨s, 0, none⟩), .int .i64 f] 71) (.cells #[.pointer none, .int .i64 0] 71) W0 (by rw [hW0]; exact Below.refl _ _)
  have zx := hx.below hb0
  have zy := hy.below hb0
  have HN := Lib.hid (fun (W : World) (hb : Below W0.heap.size W0 W) => nneg (e := f) (zy.below hb) (by omega))
  have HA := Lib.hid (fun (W : World) (g : Nat) (hb : Below W0.heap.size W0 W) (hz : Z W g (-y)) => nadd (e := e) (f := f) (zx.below hb) hz hbx (by rw [Int.natAbs_neg]; exact hby) h1 h2 h3 h4)
  obtain ⟨c0, c1, _, _, l0⟩ := cellsN hx0
  obtain ⟨e0, e1, _, _, m0⟩ := cellsN hy0
  obtain ⟨d0, d1, f0, f1, l1⟩ := cellsN hx1
  have n0 : w.heap.size ≠ w.heap.size + 1 + 1 := by omega
  have n1 := Ne.symm n0
  have stay := Lib.hid (fun (W : World) (hb : Below W0.heap.size W0 W) => (⟨cellsN ((hb.block _ l0).trans hx0), cellsN ((hb.block _ m0).trans hy0), cellsN ((hb.block _ l1).trans hx1), (hb.block _ l1).trans hx1, hb0.trans (hb.mono (Nat.le_trans (by omega) hs0))⟩ : _ ∧ _ ∧ _ ∧ _ ∧ Below w.heap.size w W))
  have HW := Lib.hid hW0
  clear hx hy hb0 hx0 hx1 hy0 hW0 zx zy hbx hby h1 h2 h3 h4
  generalize addz x e (-y) f = z at *
  generalize adde x e (-y) f = k at *
  go_enter Try.func102, Try.ntmps102
  go_wp2_with fail
  rw [← HW.out]
  clear HW
  go_region_held3 (fun w' => w'.cell? ⟨w.heap.size, 0, none⟩ = some (.pointer (some ⟨q, 0, none⟩)) ∧ w'.cell? ⟨w.heap.size, 1, none⟩ = some (.int .i64 e) ∧ w'.cell? ⟨w.heap.size + 1, 0, none⟩ = some (.pointer (some ⟨s, 0, none⟩)) ∧ w'.cell? ⟨w.heap.size + 1, 1, none⟩ = some (.int .i64 f)) (go_keep)
    (first
      | (go_at_call 98; refine (HN.out _ (by first | exact Below.refl _ _ | exact (Below.refl _ _).drew)).mono ?_; rintro en w2 ⟨g, rfl, hz, hb⟩; have hX := below_then (show Below W0.heap.size W0 _ by first | exact Below.refl _ _ | exact (Below.refl _ _).drew) hb; obtain ⟨⟨p0, p1, _, _, p2⟩, ⟨r0, r1, _, _, r2⟩, ⟨t0, t1, t2, t3, t4⟩, hx1, hbw⟩ := stay.out w2 hX; have HX := Lib.hid hX; have HZ := Lib.hid hz; clear hz hb hX hx1 hbw)
      | (go_at_call 100; refine (HA.out _ _ HX.out HZ.out).mono ?_; rintro en w3 ⟨g3, rfl, hz, hb⟩; have hX := below_then HX.out hb; obtain ⟨⟨p0, p1, _, _, p2⟩, ⟨r0, r1, _, _, r2⟩, ⟨t0, t1, t2, t3, t4⟩, hx1, hbw⟩ := stay.out w3 hX; have HX3 := Lib.hid hx1; have HB3 := Lib.hid hbw; have HZ3 := Lib.hid hz; clear hz hb hX hx1 hbw))
  all_goals go_wp2
  all_goals
    have hst := storedN (e := k) HX3.out HB3.out (by omega) HZ3.out
    exact bodyPost_ret (results_single rfl (.cell (w.heap.size + 1 + 1) 71 #[.pointer (some ⟨_, 0, none⟩), .int .i64 k] (0, 0) _ rfl hst.1 Try.underlying71 rfl sizeN .nil)) rfl ⟨_, rfl, hst.2.1, hst.2.2⟩
end Go.Proofs.Ytdboepiobaehkaa.Nh
end
section
set_option linter.unusedVariables false
set_option linter.unusedSimpArgs false
namespace Go.Proofs.Ytdboepiobaehkaa.PW
open Go.RowKit Go.Proofs.YtdboepiobaehkaaW.PrintWords Go.Proofs.Ytdboepiobaehkaa.Pc Go.Proofs.Ytdboepiobaehkaa.Pb Go.Proofs.Ytdboepiobaehkaa.Pw Go.Proofs.Ytdboepiobaehkaa.Ma Go.Proofs.Ytdboepiobaehkaa.Mb Go.Proofs.Ytdboepiobaehkaa.Mc Go.Proofs.Ytdboepiobaehkaa.Me Go.Proofs.Ytdboepiobaehkaa.Mh Go.Proofs.Ytdboepiobaehkaa.Mk Go.Proofs.Ytdboepiobaehkaa.Mu Go.Proofs.Ytdboepiobaehkaa.Na Go.Proofs.Ytdboepiobaehkaa.Nc Go.Proofs.Ytdboepiobaehkaa.Nd Go.Proofs.Ytdboepiobaehkaa.Nf Go.Proofs.Ytdboepiobaehkaa.Ng Go.Proofs.Ytdboepiobaehkaa.Nh Go.Proofs.Ytdboepiobaehkaa.Qa Dg
def impl_SubtractDyadics.f (a0_0 : Int) (l0_1 : List Int) (a0_2 : Int) (a1_0 : Int) (l1_1 : List Int) (a1_2 : Int) : Option (Int × List Int × Int × Int) := some (if isD a0_0 l0_1 a0_2 = true ∧ isD a1_0 l1_1 a1_2 = true then fitD (addz (wv a0_0 l0_1) a0_2 (-(wv a1_0 l1_1)) a1_2) (adde (wv a0_0 l0_1) a0_2 (-(wv a1_0 l1_1)) a1_2) else (0, [], 0, 1))
theorem impl_SubtractDyadics.two (z : Int) (k : Nat) : bl (z * 2 ^ k).natAbs ≤ bl z.natAbs + k := by
  rw [Int.natAbs_mul, show ((2 : Int) ^ k).natAbs = 2 ^ k by rw [Int.natAbs_pow]; rfl]
  exact bl_shift_le _ _
theorem addz_bl (x e y f : Int) (hx : bl x.natAbs ≤ 2400) (hy : bl y.natAbs ≤ 2400) (h1 : -3000 ≤ e) (h2 : e ≤ 3000) (h3 : -3000 ≤ f) (h4 : f ≤ 3000) : bl (addz x e y f).natAbs ≤ 268435456 := by
  unfold addz
  split
  · omega
  · split
    · omega
    · have a := impl_SubtractDyadics.two x (e - min e f).toNat
      have b := impl_SubtractDyadics.two y (f - min e f).toNat
      have := bl_add_natAbs (x * 2 ^ (e - min e f).toNat) (y * 2 ^ (f - min e f).toNat)
      omega
theorem adde_lo (x e y f : Int) (h1 : -3000 ≤ e) (h2 : e ≤ 3000) (h3 : -3000 ≤ f) (h4 : f ≤ 3000) : -1000000 ≤ adde x e y f ∧ adde x e y f ≤ 1000000 := by
  unfold adde
  split
  · omega
  · split <;> omega
set_option maxRecDepth 20000 in
set_option maxHeartbeats 1600000 in
theorem impl_SubtractDyadics.calls (a0_0 : Int) (A0_1 : Option Addr) (c0_1 : Nat) (l0_1 : List Int) (a0_2 : Int) (a1_0 : Int) (A1_1 : Option Addr) (c1_1 : Nat) (l1_1 : List Int) (a1_2 : Int) (r1 : Int) (r2 : List Int) (r3 : Int) (r4 : Int) (w : World) (hr0_1 : Kd.C (Kd.int .i64) w A0_1 l0_1.length l0_1) (hc0_1 : l0_1.length ≤ c0_1) (hr1_1 : Kd.C (Kd.int .i64) w A1_1 l1_1.length l1_1) (hc1_1 : l1_1.length ≤ c1_1) (h : impl_SubtractDyadics.f a0_0 l0_1 a0_2 a1_0 l1_1 a1_2 = some (r1, r2, r3, r4)) :
    Calls Try.prog 50 #[.agg #[.int .i64 a0_0, .slice A0_1 l0_1.length c0_1, .int .i64 a0_2], .agg #[.int .i64 a1_0, .slice A1_1 l1_1.length c1_1, .int .i64 a1_2]] w fun e w' => ∃ v1_ : Value, e = .returned (.tuple #[.agg #[.int .i64 r1, v1_, .int .i64 r3], .int .i64 r4]) ∧ Kd.R (Kd.int .i64) 2 w' w.heap.size (fun _ => True) v1_ r2 ∧ Below w.heap.size w w' := by
  unfold impl_SubtractDyadics.f at h
  obtain ⟨W0, hW0⟩ : ∃ W0, W0 = ((w.alloc (.cells #[.int .i64 a0_0, .slice A0_1 l0_1.length c0_1, .int .i64 a0_2] 31)).alloc (.cells #[.int .i64 a1_0, .slice A1_1 l1_1.length c1_1, .int .i64 a1_2] 31)).alloc (.cells #[.int .i64 0, .slice none 0 0, .int .i64 0] 31) := ⟨_, rfl⟩
  obtain ⟨hb0, stay0⟩ := three w a0_0 a0_2 A0_1 l0_1.length c0_1 a1_0 a1_2 A1_1 l1_1.length c1_1 hW0
  have stay := Lib.hid stay0
  have HI0 := fun (W : World) (hb : Below W0.heap.size W0 W) => cID (s := a0_0) (e := a0_2) (C_at (C_at hr0_1 hb0) hb) hc0_1
  have HJ0 := fun (W : World) (hb : Below W0.heap.size W0 W) => cID (s := a1_0) (e := a1_2) (C_at (C_at hr1_1 hb0) hb) hc1_1
  have HC0 := Lib.hid (fun (W : World) (hb : Below W0.heap.size W0 W) => C_at (C_at hr0_1 hb0) hb)
  have HC1 := Lib.hid (fun (W : World) (hb : Below W0.heap.size W0 W) => C_at (C_at hr1_1 hb0) hb)
  have HW := Lib.hid hW0
  clear hW0 stay0 hr0_1 hr1_1 hc0_1 hc1_1 hb0
  cases hw : isD a0_0 l0_1 a0_2 with
  | false =>
    rw [hw] at h HI0
    rw [if_neg (by simp)] at h
    obtain ⟨rfl, h2⟩ := Prod.mk.inj (Option.some.inj h)
    obtain ⟨rfl, h3⟩ := Prod.mk.inj h2
    obtain ⟨rfl, rfl⟩ := Prod.mk.inj h3
    have HI := Lib.hid HI0
    clear h h2 h3 hw HI0 HJ0
    go_enter Try.func50, Try.ntmps50
    go_upto_region 1 with fail
    rw [← HW.out]
    clear HW
    obtain ⟨⟨c0, c1, c2⟩, ⟨e0, e1, e2⟩, ⟨d0, d1, d2, d3, d4, d5⟩, ⟨z0, z1, z2⟩, hx1, hbw⟩ := stay.out W0 (Below.refl _ _)
    clear hx1 hbw
    go_wp2_with fail
    refine (HI.out W0 (Below.refl _ _)).mono ?_
    rintro en w1 ⟨rfl, hb⟩
    clear c0 c1 c2 e0 e1 e2 d0 d1 d2 d3 d4 d5 z0 z1 z2
    obtain ⟨⟨c0, c1, c2⟩, ⟨e0, e1, e2⟩, ⟨d0, d1, d2, d3, d4, d5⟩, ⟨z0, z1, z2⟩, hx1, hbw⟩ := stay.out w1 hb
    have HX := Lib.hid hx1
    have HB := Lib.hid hbw
    clear hx1 hbw hb
    go_wp2
    have hst := storedD (s := 0) (x := 0) (u := .slice none 0 0) HX.out HB.out (by omega) (Kd.R_nil _ _ _ _ _)
    exact bodyPost_ret (results_ct rfl _ _ (w.heap.size + 1 + 1) 31 #[.int .i64 0, .slice none 0 0, .int .i64 0] (0, 0) _ rfl hst.1 Try.underlying31 rfl sizeD) rfl ⟨_, rfl, hst.2.1, hst.2.2⟩
  | true =>
    rw [hw] at h HI0
    have HI := Lib.hid HI0
    clear HI0
    cases hx : isD a1_0 l1_1 a1_2 with
    | false =>
      rw [hx] at h HJ0
      rw [if_neg (by simp)] at h
      obtain ⟨rfl, h2⟩ := Prod.mk.inj (Option.some.inj h)
      obtain ⟨rfl, h3⟩ := Prod.mk.inj h2
      obtain ⟨rfl, rfl⟩ := Prod.mk.inj h3
      have HJ := Lib.hid HJ0
      clear h h2 h3 hw hx HJ0
      go_enter Try.func50, Try.ntmps50
      go_upto_region 1 with fail
      rw [← HW.out]
      clear HW
      obtain ⟨⟨c0, c1, c2⟩, ⟨e0, e1, e2⟩, ⟨d0, d1, d2, d3, d4, d5⟩, ⟨z0, z1, z2⟩, hx1, hbw⟩ := stay.out W0 (Below.refl _ _)
      clear hx1 hbw
      go_wp2_with fail
      refine (HI.out W0 (Below.refl _ _)).mono ?_
      rintro en w1 ⟨rfl, hb⟩
      clear c0 c1 c2 e0 e1 e2 d0 d1 d2 d3 d4 d5 z0 z1 z2
      obtain ⟨⟨c0, c1, c2⟩, ⟨e0, e1, e2⟩, ⟨d0, d1, d2, d3, d4, d5⟩, ⟨z0, z1, z2⟩, hx1, hbw⟩ := stay.out w1 hb
      have HB1 := Lib.hid hb
      clear hx1 hbw hb
      go_wp2_with fail
      refine (HJ.out w1 HB1.out).mono ?_
      rintro en w2 ⟨rfl, hb⟩
      have hbb := below_then HB1.out hb
      clear c0 c1 c2 e0 e1 e2 d0 d1 d2 d3 d4 d5 z0 z1 z2
      obtain ⟨⟨c0, c1, c2⟩, ⟨e0, e1, e2⟩, ⟨d0, d1, d2, d3, d4, d5⟩, ⟨z0, z1, z2⟩, hx1, hbw⟩ := stay.out w2 hbb
      have HX := Lib.hid hx1
      have HB := Lib.hid hbw
      clear hx1 hbw hb hbb
      go_wp2
      have hst := storedD (s := 0) (x := 0) (u := .slice none 0 0) HX.out HB.out (by omega) (Kd.R_nil _ _ _ _ _)
      exact bodyPost_ret (results_ct rfl _ _ (w.heap.size + 1 + 1) 31 #[.int .i64 0, .slice none 0 0, .int .i64 0] (0, 0) _ rfl hst.1 Try.underlying31 rfl sizeD) rfl ⟨_, rfl, hst.2.1, hst.2.2⟩
    | true =>
      rw [hx] at h HJ0
      rw [if_pos ⟨rfl, rfl⟩] at h
      have h1 := Option.some.inj h
      have HJ := Lib.hid HJ0
      have hW := isD_W hw
      have he := isD_e hw
      have hW1 := isD_W hx
      have he1 := isD_e hx
      have b0 := (isW_eq hW).2.2
      have b1 := (isW_eq hW1).2.2
      have HN := Lib.hid (fun (W : World) (hb : Below W0.heap.size W0 W) => numberOf (c := c0_1) (e := a0_2) (HC0.out W hb) hW)
      have HM := Lib.hid (fun (W : World) (hb : Below W0.heap.size W0 W) => numberOf (c := c1_1) (e := a1_2) (HC1.out W hb) hW1)
      have HO := Lib.hid (fun (W : World) (g g4 : Nat) (hz : Z W g (wv a0_0 l0_1)) (hz4 : Z W g4 (wv a1_0 l1_1)) => nsub (e := a0_2) (f := a1_2) hz hz4 (by omega) (by omega) (by omega) (by omega) (by omega) (by omega))
      have hD := fun (W : World) (g : Nat) (hz : Z W g (addz (wv a0_0 l0_1) a0_2 (-(wv a1_0 l1_1)) a1_2)) => ndyadic (e := adde (wv a0_0 l0_1) a0_2 (-(wv a1_0 l1_1)) a1_2) hz (addz_bl _ _ _ _ (by omega) (by rw [Int.natAbs_neg]; omega) (by omega) (by omega) (by omega) (by omega)) (adde_lo _ _ _ _ (by omega) (by omega) (by omega) (by omega)).1 (adde_lo _ _ _ _ (by omega) (by omega) (by omega) (by omega)).2
      rw [h1] at hD
      have HD := Lib.hid hD
      clear hD h h1 hw hx HJ0 hW hW1 b0 b1 he he1
      generalize addz (wv a0_0 l0_1) a0_2 (-(wv a1_0 l1_1)) a1_2 = zz at *
      generalize adde (wv a0_0 l0_1) a0_2 (-(wv a1_0 l1_1)) a1_2 = ee at *
      have n0 : w.heap.size ≠ w.heap.size + 1 + 1 := by omega
      have n1 := Ne.symm n0
      go_enter Try.func50, Try.ntmps50
      go_upto_region 1 with fail
      rw [← HW.out]
      clear HW
      obtain ⟨⟨c0, c1, c2⟩, ⟨e0, e1, e2⟩, ⟨d0, d1, d2, d3, d4, d5⟩, ⟨z0, z1, z2⟩, hx1, hbw⟩ := stay.out W0 (Below.refl _ _)
      clear hx1 hbw
      go_wp2_with fail
      refine (HI.out W0 (Below.refl _ _)).mono ?_
      rintro en w1 ⟨rfl, hb⟩
      clear c0 c1 c2 e0 e1 e2 d0 d1 d2 d3 d4 d5 z0 z1 z2
      obtain ⟨⟨c0, c1, c2⟩, ⟨e0, e1, e2⟩, ⟨d0, d1, d2, d3, d4, d5⟩, ⟨z0, z1, z2⟩, hx1, hbw⟩ := stay.out w1 hb
      have HB1 := Lib.hid hb
      clear hx1 hbw hb
      go_wp2_with fail
      refine (HJ.out w1 HB1.out).mono ?_
      rintro en w2 ⟨rfl, hb⟩
      have hbb := below_then HB1.out hb
      clear c0 c1 c2 e0 e1 e2 d0 d1 d2 d3 d4 d5 z0 z1 z2
      obtain ⟨⟨c0, c1, c2⟩, ⟨e0, e1, e2⟩, ⟨d0, d1, d2, d3, d4, d5⟩, ⟨z0, z1, z2⟩, hx1, hbw⟩ := stay.out w2 hbb
      have HB2 := Lib.hid hbb
      clear hx1 hbw hb hbb HB1
      go_wp2_with fail
      go_region_held3 (fun w' => w'.cell? ⟨w.heap.size, 0, none⟩ = some (.int .i64 a0_0) ∧ w'.cell? ⟨w.heap.size, 1, none⟩ = some (.slice A0_1 l0_1.length c0_1) ∧ w'.cell? ⟨w.heap.size, 2, none⟩ = some (.int .i64 a0_2) ∧ w'.cell? ⟨w.heap.size + 1, 0, none⟩ = some (.int .i64 a1_0) ∧ w'.cell? ⟨w.heap.size + 1, 1, none⟩ = some (.slice A1_1 l1_1.length c1_1) ∧ w'.cell? ⟨w.heap.size + 1, 2, none⟩ = some (.int .i64 a1_2)) (go_keep)
        (first
          | (go_at_call 89; refine (HN.out _ (by first | exact HB2.out | exact HB2.out.drew)).mono ?_; rintro en w3 ⟨g, rfl, hz, hb⟩; have hX := below_then (show Below W0.heap.size W0 _ by first | exact HB2.out | exact HB2.out.drew) hb; obtain ⟨⟨c0, c1, c2⟩, ⟨e0, e1, e2⟩, ⟨d0, d1, d2, d3, d4, d5⟩, ⟨z0, z1, z2⟩, hx1, hbw⟩ := stay.out w3 hX; have HX3 := Lib.hid hX; have HZ := Lib.hid hz; clear hz hb hX hx1 hbw HN)
          | (go_at_call 89; refine (HM.out _ HX3.out).mono ?_; rintro en w4 ⟨g4, rfl, hz, hb⟩; have hX := below_then HX3.out hb; obtain ⟨⟨c0, c1, c2⟩, ⟨e0, e1, e2⟩, ⟨d0, d1, d2, d3, d4, d5⟩, ⟨z0, z1, z2⟩, hx1, hbw⟩ := stay.out w4 hX; have HX4 := Lib.hid hX; have HZ1 := Lib.hid (HZ.out.below hb); have HZ2 := Lib.hid hz; clear hz hb hX hx1 hbw HM HZ)
          | (go_at_call 102; refine (HO.out _ _ _ HZ1.out HZ2.out).mono ?_; rintro en w5 ⟨g5, rfl, hz, hb⟩; have hX := below_then HX4.out hb; obtain ⟨⟨c0, c1, c2⟩, ⟨e0, e1, e2⟩, ⟨d0, d1, d2, d3, d4, d5⟩, ⟨z0, z1, z2⟩, hx1, hbw⟩ := stay.out w5 hX; have HX5 := Lib.hid hX; have HZ5 := Lib.hid hz; clear hz hb hX hx1 hbw HO)
          | (go_at_call 76; refine (HD.out _ _ HZ5.out).mono ?_; rintro en w6 ⟨u, rfl, hR, hb⟩; obtain ⟨A, c, rfl⟩ := Kd.R_slice hR; have hX := below_then HX5.out hb; have HR := Lib.hid (Kd.R_lower (base' := w.heap.size) hR (by omega)); obtain ⟨⟨c0, c1, c2⟩, ⟨e0, e1, e2⟩, ⟨d0, d1, d2, d3, d4, d5⟩, ⟨z0, z1, z2⟩, hx1, hbw⟩ := stay.out w6 hX; have HX6 := Lib.hid hx1; have HB6 := Lib.hid hbw; clear hR hb hX hx1 hbw HD))
      all_goals go_wp2
      all_goals
        have hst := storedD (s := r1) (x := r3) (u := .slice A r2.length c) HX6.out HB6.out (by omega) HR.out
        exact bodyPost_ret (results_ct rfl _ _ (w.heap.size + 1 + 1) 31 #[.int .i64 r1, .slice A r2.length c, .int .i64 r3] (0, 0) _ rfl hst.1 Try.underlying31 rfl sizeD) rfl ⟨_, rfl, hst.2.1, hst.2.2⟩
end Go.Proofs.Ytdboepiobaehkaa.PW
end
section
set_option linter.unusedVariables false
set_option linter.unusedSimpArgs false
namespace Go.Proofs.Ytdboepiobaehkaa.KSubtractDyadics
open Go.RowKit Go.Proofs.YtdboepiobaehkaaW.PrintWords Go.Proofs.YtdboepiobaehkaaW.PrintLast Go.Proofs.YtdboepiobaehkaaW.PrintMore Go.Proofs.Ytdboepiobaehkaa.PW Go.Proofs.Ytdboepiobaehkaa.Pc Go.Proofs.Ytdboepiobaehkaa.Ln
set_option maxHeartbeats 800000 in
theorem early0 (s0 : Int) (A0 : Option Addr) (c0 : Nat) (l0 : List Int) (e0 : Int) (s1 : Int) (A1 : Option Addr) (c1 : Nat) (l1 : List Int) (e1 : Int) (n0 : Int) (w : World)
    (hr0 : Kd.C (Kd.int .i64) w A0 l0.length l0) (hc0 : l0.length ≤ c0) (hz0 : laws_szDyadic.f s0 l0 e0 1048576 = some n0) (pz0 : n0 < 0) :
    Calls Try.prog 12 #[.agg #[.int .i64 s0, .slice A0 l0.length c0, .int .i64 e0], .agg #[.int .i64 s1, .slice A1 l1.length c1, .int .i64 e1]] w fun e w' => e = .returned (.bool true) ∧ Below w.heap.size w w' := by
  have Z0 := Lib.hid (fun (W : World) (hb : Below w.heap.size w W) => laws_szDyadic.calls s0 A0 c0 l0 e0 1048576 n0 W (Kd.C_below hr0 hb) hc0 hz0)
  have HM : Hid (Mem w ((w.alloc (.cells #[.int .i64 s0, .slice A0 l0.length c0, .int .i64 e0] 26)).alloc (.cells #[.int .i64 s1, .slice A1 l1.length c1, .int .i64 e1] 26)) [.box (w.heap.size + 1) 26 #[.int .i64 s1, .slice A1 l1.length c1, .int .i64 e1], .box w.heap.size 26 #[.int .i64 s0, .slice A0 l0.length c0, .int .i64 e0]]) := by
    have h1 := (((Mem.nil w).box 26 #[.int .i64 s0, .slice A0 l0.length c0, .int .i64 e0]).box 26 #[.int .i64 s1, .slice A1 l1.length c1, .int .i64 e1])
    have e1 : (w.alloc (.cells #[.int .i64 s0, .slice A0 l0.length c0, .int .i64 e0] 26)).heap.size = w.heap.size + 1 := by simp
    rw [e1] at h1
    exact Lib.hid h1
  clear hr0 hc0 hz0
  go_enter Try.func12, Try.ntmps12
  go_wp2_with fail
  refine (Z0.out _ HM.out.1).mono ?_
  rintro e W1 ⟨rfl, hb⟩
  have HM1 := Lib.hid (HM.out.below hb)
  clear hb HM
  go_wp2
  go_ret
  exact ⟨rfl, HM1.out.1⟩
set_option maxHeartbeats 800000 in
theorem early1 (s0 : Int) (A0 : Option Addr) (c0 : Nat) (l0 : List Int) (e0 : Int) (s1 : Int) (A1 : Option Addr) (c1 : Nat) (l1 : List Int) (e1 : Int) (n0 n1 : Int) (w : World)
    (hr0 : Kd.C (Kd.int .i64) w A0 l0.length l0) (hc0 : l0.length ≤ c0) (hr1 : Kd.C (Kd.int .i64) w A1 l1.length l1) (hc1 : l1.length ≤ c1) (hz0 : laws_szDyadic.f s0 l0 e0 1048576 = some n0) (pz0 : 0 ≤ n0) (hz1 : laws_szDyadic.f s1 l1 e1 n0 = some n1) (pz1 : n1 < 0) :
    Calls Try.prog 12 #[.agg #[.int .i64 s0, .slice A0 l0.length c0, .int .i64 e0], .agg #[.int .i64 s1, .slice A1 l1.length c1, .int .i64 e1]] w fun e w' => e = .returned (.bool true) ∧ Below w.heap.size w w' := by
  have Z0 := Lib.hid (fun (W : World) (hb : Below w.heap.size w W) => laws_szDyadic.calls s0 A0 c0 l0 e0 1048576 n0 W (Kd.C_below hr0 hb) hc0 hz0)
  have Z1 := Lib.hid (fun (W : World) (hb : Below w.heap.size w W) => laws_szDyadic.calls s1 A1 c1 l1 e1 n0 n1 W (Kd.C_below hr1 hb) hc1 hz1)
  have HM : Hid (Mem w ((w.alloc (.cells #[.int .i64 s0, .slice A0 l0.length c0, .int .i64 e0] 26)).alloc (.cells #[.int .i64 s1, .slice A1 l1.length c1, .int .i64 e1] 26)) [.box (w.heap.size + 1) 26 #[.int .i64 s1, .slice A1 l1.length c1, .int .i64 e1], .box w.heap.size 26 #[.int .i64 s0, .slice A0 l0.length c0, .int .i64 e0]]) := by
    have h1 := (((Mem.nil w).box 26 #[.int .i64 s0, .slice A0 l0.length c0, .int .i64 e0]).box 26 #[.int .i64 s1, .slice A1 l1.length c1, .int .i64 e1])
    have e1 : (w.alloc (.cells #[.int .i64 s0, .slice A0 l0.length c0, .int .i64 e0] 26)).heap.size = w.heap.size + 1 := by simp
    rw [e1] at h1
    exact Lib.hid h1
  clear hr0 hc0 hz0 hr1 hc1 hz1
  go_enter Try.func12, Try.ntmps12
  go_wp2_with fail
  refine (Z0.out _ HM.out.1).mono ?_
  rintro e W1 ⟨rfl, hb⟩
  have HM1 := Lib.hid (HM.out.below hb)
  clear hb HM
  obtain ⟨p00a, p00b, p00e, p00c⟩ := HM1.out.cells3 (by first | exact .head _ | exact .tail _ (.head _) | exact .tail _ (.tail _ (.head _)))
  obtain ⟨p01a, p01b, p01e, p01c⟩ := HM1.out.cells3 (by first | exact .head _ | exact .tail _ (.head _) | exact .tail _ (.tail _ (.head _)))
  go_wp2_with fail
  refine (Z1.out _ HM1.out.1).mono ?_
  rintro e W2 ⟨rfl, hb⟩
  have HM2 := Lib.hid (HM1.out.below hb)
  clear hb HM1
  go_wp2
  go_ret
  exact ⟨rfl, HM2.out.1⟩
set_option maxHeartbeats 3200000 in
set_option maxRecDepth 20000 in
theorem path (k : Nat) (s0 : Int) (A0 : Option Addr) (c0 : Nat) (l0 : List Int) (e0 : Int) (s1 : Int) (A1 : Option Addr) (c1 : Nat) (l1 : List Int) (e1 : Int) (g : Int) (gl : List Int) (ge : Int) (cd : Int) (n0 n1 m0 m1 mg : Int) (k0 k1 kg : List Int) (w : World)
    (hr0 : Kd.C (Kd.int .i64) w A0 l0.length l0) (hc0 : l0.length ≤ c0) (hr1 : Kd.C (Kd.int .i64) w A1 l1.length l1) (hc1 : l1.length ≤ c1)
    (hz0 : laws_szDyadic.f s0 l0 e0 1048576 = some n0) (pz0 : 0 ≤ n0) (hz1 : laws_szDyadic.f s1 l1 e1 n0 = some n1) (pz1 : 0 ≤ n1)
    (ht0 : laws_toDyadic.f k s0 l0 e0 = some (s0, l0, e0)) (ht1 : laws_toDyadic.f k s1 l1 e1 = some (s1, l1, e1))
    (hsp : spec_SubtractDyadics.f k s0 l0 e0 s1 l1 e1 = some (g, gl, ge, cd)) (him : impl_SubtractDyadics.f s0 l0 e0 s1 l1 e1 = some (g, gl, ge, cd))
    (heg : laws_eqDyadic.f k g gl ge g gl ge = some true) (he0 : laws_eqDyadic.f k s0 l0 e0 s0 l0 e0 = some true) (he1 : laws_eqDyadic.f k s1 l1 e1 s1 l1 e1 = some true)
    (hm0 : laws_markDyadic.f k s0 l0 e0 1 = some (m0, k0)) (hm1 : laws_markDyadic.f k s1 l1 e1 m0 = some (m1, k1)) (pm : 0 ≤ m1)
    (hmg : laws_markDyadic.f k g gl ge 1 = some (mg, kg)) (hhg : laws_heldDyadic.f k g kg ge 1 = some mg) (pmg : 0 ≤ mg) :
    Calls Try.prog 12 #[.agg #[.int .i64 s0, .slice A0 l0.length c0, .int .i64 e0], .agg #[.int .i64 s1, .slice A1 l1.length c1, .int .i64 e1]] w fun e w' => e = .returned (.bool true) ∧ Below w.heap.size w w' := by
  have Z0 := Lib.hid (fun (W : World) (hb : Below w.heap.size w W) => laws_szDyadic.calls s0 A0 c0 l0 e0 1048576 n0 W (Kd.C_below hr0 hb) hc0 hz0)
  have Z1 := Lib.hid (fun (W : World) (hb : Below w.heap.size w W) => laws_szDyadic.calls s1 A1 c1 l1 e1 n0 n1 W (Kd.C_below hr1 hb) hc1 hz1)
  have T0 := Lib.hid (fun (W : World) (hb : Below w.heap.size w W) => laws_toDyadic.calls k s0 A0 c0 l0 e0 s0 l0 e0 W (Kd.C_below hr0 hb) hc0 ht0)
  have T1 := Lib.hid (fun (W : World) (hb : Below w.heap.size w W) => laws_toDyadic.calls k s1 A1 c1 l1 e1 s1 l1 e1 W (Kd.C_below hr1 hb) hc1 ht1)
  have SP := Lib.hid (fun (W : World) (B0 : Option Addr) (d0 : Nat) (B1 : Option Addr) (d1 : Nat) (h0 : Kd.C (Kd.int .i64) W B0 l0.length l0) (x0 : l0.length ≤ d0) (h1 : Kd.C (Kd.int .i64) W B1 l1.length l1) (x1 : l1.length ≤ d1) => spec_SubtractDyadics.calls k s0 B0 d0 l0 e0 s1 B1 d1 l1 e1 g gl ge cd W h0 x0 h1 x1 hsp)
  have IM := Lib.hid (fun (W : World) (B0 : Option Addr) (d0 : Nat) (B1 : Option Addr) (d1 : Nat) (h0 : Kd.C (Kd.int .i64) W B0 l0.length l0) (x0 : l0.length ≤ d0) (h1 : Kd.C (Kd.int .i64) W B1 l1.length l1) (x1 : l1.length ≤ d1) => impl_SubtractDyadics.calls s0 B0 d0 l0 e0 s1 B1 d1 l1 e1 g gl ge cd W h0 x0 h1 x1 him)
  have EG := Lib.hid (fun (W : World) (A : Option Addr) (c : Nat) (B : Option Addr) (d : Nat) (h0 : Kd.C (Kd.int .i64) W A gl.length gl) (hc : gl.length ≤ c) (h1 : Kd.C (Kd.int .i64) W B gl.length gl) (hd : gl.length ≤ d) => laws_eqDyadic.calls k g A c gl ge g B d gl ge true W h0 hc h1 hd heg)
  have E0 := Lib.hid (fun (W : World) (A : Option Addr) (c : Nat) (B : Option Addr) (d : Nat) (h0 : Kd.C (Kd.int .i64) W A l0.length l0) (hc : l0.length ≤ c) (h1 : Kd.C (Kd.int .i64) W B l0.length l0) (hd : l0.length ≤ d) => laws_eqDyadic.calls k s0 A c l0 e0 s0 B d l0 e0 true W h0 hc h1 hd he0)
  have E1 := Lib.hid (fun (W : World) (A : Option Addr) (c : Nat) (B : Option Addr) (d : Nat) (h0 : Kd.C (Kd.int .i64) W A l1.length l1) (hc : l1.length ≤ c) (h1 : Kd.C (Kd.int .i64) W B l1.length l1) (hd : l1.length ≤ d) => laws_eqDyadic.calls k s1 A c l1 e1 s1 B d l1 e1 true W h0 hc h1 hd he1)
  have M0 := Lib.hid (fun (W : World) (P : Nat → Prop) (u : Value) (hB : Below w.heap.size w W) (ho : Kd.R (Kd.int .i64) 2 W w.heap.size P u l0) => laws_markDyadic.calls k s0 P u l0 e0 1 m0 k0 w W hB ho hm0)
  have M1 := Lib.hid (fun (W : World) (P : Nat → Prop) (u : Value) (hB : Below w.heap.size w W) (ho : Kd.R (Kd.int .i64) 2 W w.heap.size P u l1) => laws_markDyadic.calls k s1 P u l1 e1 m0 m1 k1 w W hB ho hm1)
  have MG := Lib.hid (fun (W : World) (P : Nat → Prop) (u : Value) (hB : Below w.heap.size w W) (ho : Kd.R (Kd.int .i64) 2 W w.heap.size P u gl) => laws_markDyadic.calls k g P u gl ge 1 mg kg w W hB ho hmg)
  have HG := Lib.hid (fun (W : World) (A : Option Addr) (n c : Nat) (hn : n = kg.length) (h0 : Kd.C (Kd.int .i64) W A kg.length kg) (hc : kg.length ≤ c) => hn ▸ laws_heldDyadic.calls k g A c kg ge 1 mg W h0 hc hhg)
  have HM : Hid (Mem w ((w.alloc (.cells #[.int .i64 s0, .slice A0 l0.length c0, .int .i64 e0] 26)).alloc (.cells #[.int .i64 s1, .slice A1 l1.length c1, .int .i64 e1] 26)) [.box (w.heap.size + 1) 26 #[.int .i64 s1, .slice A1 l1.length c1, .int .i64 e1], .box w.heap.size 26 #[.int .i64 s0, .slice A0 l0.length c0, .int .i64 e0]]) := by
    have h1 := (((Mem.nil w).box 26 #[.int .i64 s0, .slice A0 l0.length c0, .int .i64 e0]).box 26 #[.int .i64 s1, .slice A1 l1.length c1, .int .i64 e1])
    have e1 : (w.alloc (.cells #[.int .i64 s0, .slice A0 l0.length c0, .int .i64 e0] 26)).heap.size = w.heap.size + 1 := by simp
    rw [e1] at h1
    exact Lib.hid h1
  clear hr0 hc0 hz0 ht0 hr1 hc1 hz1 ht1 hsp him heg he0 hm0 he1 hm1 hmg hhg
  go_enter Try.func12, Try.ntmps12
  go_wp2_with fail
  generalize hW0 : ((w.alloc (.cells #[.int .i64 s0, .slice A0 l0.length c0, .int .i64 e0] 26)).alloc (.cells #[.int .i64 s1, .slice A1 l1.length c1, .int .i64 e1] 26)) = W0 at HM ⊢
  clear hW0
  generalize hB0 : w.heap.size + 1 = b1 at HM ⊢
  generalize hB1 : w.heap.size = b0 at HM ⊢
  refine (Z0.out _ HM.out.1).mono ?_
  rintro e W11 ⟨rfl, hb⟩
  have HM11 := Lib.hid (Mem.below HM.out hb)
  clear hb HM
  obtain ⟨cb1a, cb1b, cb1e, cb1c⟩ := HM11.out.cells3 (.head _)
  obtain ⟨cb0a, cb0b, cb0e, cb0c⟩ := HM11.out.cells3 (.tail _ (.head _))
  go_wp2_with fail
  refine (Z1.out _ HM11.out.1).mono ?_
  rintro e W12 ⟨rfl, hb⟩
  have HM12 := Lib.hid (Mem.below HM11.out hb)
  clear hb HM11
  clear cb1a cb1b cb1e cb1c cb0a cb0b cb0e cb0c
  obtain ⟨cb1a, cb1b, cb1e, cb1c⟩ := HM12.out.cells3 (.head _)
  obtain ⟨cb0a, cb0b, cb0e, cb0c⟩ := HM12.out.cells3 (.tail _ (.head _))
  have T0x := T0
  have T1x := T1
  go_upto_region 8 with fail
  obtain ⟨ES, hES0, hES⟩ := HM12.out.list
  have HES := Lib.hid hES
  clear hES hES0
  go_cut [6, 7] (fun v6 v7 wc => v7 = .int .i64 cd ∧ ∃ (bz : Nat) (Az : Option Addr) (dz lo hi : Nat), v6 = .pointer (some ⟨bz, 0, none⟩) ∧ Hid (Mem w wc (.box bz 31 #[.int .i64 g, .slice Az gl.length dz, .int .i64 ge] :: .row (.slice Az gl.length dz) gl lo hi :: ES)))
  case first =>
    obtain rfl := HES.out
    clear HES
    go_region_held3 (fun w' => w'.cell? ⟨b0, 0, none⟩ = some (.int .i64 s0) ∧ w'.cell? ⟨b0, 1, none⟩ = some (.slice A0 l0.length c0) ∧ w'.cell? ⟨b0, 2, none⟩ = some (.int .i64 e0) ∧ w'.cell? ⟨b1, 0, none⟩ = some (.int .i64 s1) ∧ w'.cell? ⟨b1, 1, none⟩ = some (.slice A1 l1.length c1) ∧ w'.cell? ⟨b1, 2, none⟩ = some (.int .i64 e1)) (go_keep)
      (first
        | (go_at_call 24; refine (T0x.out _ (by first | exact (Mem.drew HM12.out).1 | exact (Mem.drew (Mem.box HM12.out 31 #[.int .i64 0, .slice none 0 0, .int .i64 0])).1 | exact (Mem.box (Mem.drew HM12.out) 31 #[.int .i64 0, .slice none 0 0, .int .i64 0]).1)).mono ?_; rintro e W13 ⟨v0, rfl, hR, hb⟩; obtain ⟨F0, f0, rfl⟩ := Kd.R_slice hR; (first | (have HM13 := Lib.hid (Mem.row (Mem.drew HM12.out) hR hb)) | (have HM13 := Lib.hid (Mem.row (Mem.drew (Mem.box HM12.out 31 #[.int .i64 0, .slice none 0 0, .int .i64 0])) hR hb); have ZB0 := Lib.hid True.intro) | (have HM13 := Lib.hid (Mem.row (Mem.box (Mem.drew HM12.out) 31 #[.int .i64 0, .slice none 0 0, .int .i64 0]) hR hb); have ZB0 := Lib.hid True.intro)); (first | (obtain ⟨p00a, p00b, p00e, p00c⟩ := HM13.out.cells3 (b := b0) (t := 26) (u := .int .i64 s0) (v := .slice A0 l0.length c0) (x := .int .i64 e0) (.tail _ (.tail _ (.head _))); obtain ⟨p01a, p01b, p01e, p01c⟩ := HM13.out.cells3 (b := b1) (t := 26) (u := .int .i64 s1) (v := .slice A1 l1.length c1) (x := .int .i64 e1) (.tail _ (.head _))) | (obtain ⟨p00a, p00b, p00e, p00c⟩ := HM13.out.cells3 (b := b0) (t := 26) (u := .int .i64 s0) (v := .slice A0 l0.length c0) (x := .int .i64 e0) (.tail _ (.tail _ (.tail _ (.head _)))); obtain ⟨p01a, p01b, p01e, p01c⟩ := HM13.out.cells3 (b := b1) (t := 26) (u := .int .i64 s1) (v := .slice A1 l1.length c1) (x := .int .i64 e1) (.tail _ (.tail _ (.head _))))); clear hR hb T0x)
        | (go_at_call 24; refine (T1x.out _ (by first | exact HM13.out.1 | exact (Mem.box HM13.out 31 #[.int .i64 0, .slice none 0 0, .int .i64 0]).1)).mono ?_; rintro e W14 ⟨v1, rfl, hR, hb⟩; obtain ⟨F1, f1, rfl⟩ := Kd.R_slice hR; (first | (have HM14 := Lib.hid (Mem.row HM13.out hR hb)) | (have HM14 := Lib.hid (Mem.row (Mem.box HM13.out 31 #[.int .i64 0, .slice none 0 0, .int .i64 0]) hR hb); have ZB1 := Lib.hid True.intro)); (first | (obtain ⟨p10a, p10b, p10e, p10c⟩ := HM14.out.cells3 (b := b0) (t := 26) (u := .int .i64 s0) (v := .slice A0 l0.length c0) (x := .int .i64 e0) (.tail _ (.tail _ (.tail _ (.head _)))); obtain ⟨p11a, p11b, p11e, p11c⟩ := HM14.out.cells3 (b := b1) (t := 26) (u := .int .i64 s1) (v := .slice A1 l1.length c1) (x := .int .i64 e1) (.tail _ (.tail _ (.head _)))) | (obtain ⟨p10a, p10b, p10e, p10c⟩ := HM14.out.cells3 (b := b0) (t := 26) (u := .int .i64 s0) (v := .slice A0 l0.length c0) (x := .int .i64 e0) (.tail _ (.tail _ (.tail _ (.tail _ (.head _))))); obtain ⟨p11a, p11b, p11e, p11c⟩ := HM14.out.cells3 (b := b1) (t := 26) (u := .int .i64 s1) (v := .slice A1 l1.length c1) (x := .int .i64 e1) (.tail _ (.tail _ (.tail _ (.head _)))))); clear hR hb T1x)
        | (go_at_call 49; (first | (have HZ := HM14; refine (SP.out _ _ _ _ _ (HZ.out.reads (A := F0) (c := f0) (n := l0.length) (l := l0) (by first | exact .head _ | exact .tail _ (.head _) | exact .tail _ (.tail _ (.head _)) | exact .tail _ (.tail _ (.tail _ (.head _))))).1 (HZ.out.reads (A := F0) (c := f0) (n := l0.length) (l := l0) (by first | exact .head _ | exact .tail _ (.head _) | exact .tail _ (.tail _ (.head _)) | exact .tail _ (.tail _ (.tail _ (.head _))))).2 (HZ.out.reads (A := F1) (c := f1) (n := l1.length) (l := l1) (by first | exact .head _ | exact .tail _ (.head _) | exact .tail _ (.tail _ (.head _)) | exact .tail _ (.tail _ (.tail _ (.head _))))).1 (HZ.out.reads (A := F1) (c := f1) (n := l1.length) (l := l1) (by first | exact .head _ | exact .tail _ (.head _) | exact .tail _ (.tail _ (.head _)) | exact .tail _ (.tail _ (.tail _ (.head _))))).2).mono ?_) | (have HZ := Lib.hid (Mem.box HM14.out 31 #[.int .i64 0, .slice none 0 0, .int .i64 0]); have ZB2 := Lib.hid True.intro; refine (SP.out _ _ _ _ _ (HZ.out.reads (A := F0) (c := f0) (n := l0.length) (l := l0) (by first | exact .head _ | exact .tail _ (.head _) | exact .tail _ (.tail _ (.head _)) | exact .tail _ (.tail _ (.tail _ (.head _))))).1 (HZ.out.reads (A := F0) (c := f0) (n := l0.length) (l := l0) (by first | exact .head _ | exact .tail _ (.head _) | exact .tail _ (.tail _ (.head _)) | exact .tail _ (.tail _ (.tail _ (.head _))))).2 (HZ.out.reads (A := F1) (c := f1) (n := l1.length) (l := l1) (by first | exact .head _ | exact .tail _ (.head _) | exact .tail _ (.tail _ (.head _)) | exact .tail _ (.tail _ (.tail _ (.head _))))).1 (HZ.out.reads (A := F1) (c := f1) (n := l1.length) (l := l1) (by first | exact .head _ | exact .tail _ (.head _) | exact .tail _ (.tail _ (.head _)) | exact .tail _ (.tail _ (.tail _ (.head _))))).2).mono ?_)); rintro e W15 ⟨v9, rfl, hR, hb⟩; obtain ⟨F9, f9, rfl⟩ := Kd.R_slice hR; have HM15 := Lib.hid (Mem.row HZ.out hR hb); (first | (obtain ⟨p20a, p20b, p20e, p20c⟩ := HM15.out.cells3 (b := b0) (t := 26) (u := .int .i64 s0) (v := .slice A0 l0.length c0) (x := .int .i64 e0) (.tail _ (.tail _ (.tail _ (.tail _ (.head _))))); obtain ⟨p21a, p21b, p21e, p21c⟩ := HM15.out.cells3 (b := b1) (t := 26) (u := .int .i64 s1) (v := .slice A1 l1.length c1) (x := .int .i64 e1) (.tail _ (.tail _ (.tail _ (.head _))))) | (obtain ⟨p20a, p20b, p20e, p20c⟩ := HM15.out.cells3 (b := b0) (t := 26) (u := .int .i64 s0) (v := .slice A0 l0.length c0) (x := .int .i64 e0) (.tail _ (.tail _ (.tail _ (.tail _ (.tail _ (.head _)))))); obtain ⟨p21a, p21b, p21e, p21c⟩ := HM15.out.cells3 (b := b1) (t := 26) (u := .int .i64 s1) (v := .slice A1 l1.length c1) (x := .int .i64 e1) (.tail _ (.tail _ (.tail _ (.tail _ (.head _))))))); (first | (have zz := ZB2; obtain ⟨z0, z1, z2, z3⟩ := HM15.out.cells3 (b := W14.heap.size) (t := 31) (u := .int .i64 0) (v := .slice none 0 0) (x := .int .i64 0) (by first | exact .head _ | exact .tail _ (.head _) | exact .tail _ (.tail _ (.head _)) | exact .tail _ (.tail _ (.tail _ (.head _))) | exact .tail _ (.tail _ (.tail _ (.tail _ (.head _)))) | exact .tail _ (.tail _ (.tail _ (.tail _ (.tail _ (.head _)))))); obtain ⟨zf0, zf1, zf2⟩ := HM15.out.lts3 (b := W14.heap.size) (t := 31) (u := .int .i64 0) (v := .slice none 0 0) (x := .int .i64 0) (by first | exact .head _ | exact .tail _ (.head _) | exact .tail _ (.tail _ (.head _)) | exact .tail _ (.tail _ (.tail _ (.head _))) | exact .tail _ (.tail _ (.tail _ (.tail _ (.head _)))) | exact .tail _ (.tail _ (.tail _ (.tail _ (.tail _ (.head _)))))); have zn0 := Nat.ne_of_lt p10c; have zm0 := Ne.symm zn0; have zn1 := Nat.ne_of_lt p11c; have zm1 := Ne.symm zn1) | (have zz := ZB1; obtain ⟨z0, z1, z2, z3⟩ := HM15.out.cells3 (b := W13.heap.size) (t := 31) (u := .int .i64 0) (v := .slice none 0 0) (x := .int .i64 0) (by first | exact .head _ | exact .tail _ (.head _) | exact .tail _ (.tail _ (.head _)) | exact .tail _ (.tail _ (.tail _ (.head _))) | exact .tail _ (.tail _ (.tail _ (.tail _ (.head _)))) | exact .tail _ (.tail _ (.tail _ (.tail _ (.tail _ (.head _)))))); obtain ⟨zf0, zf1, zf2⟩ := HM15.out.lts3 (b := W13.heap.size) (t := 31) (u := .int .i64 0) (v := .slice none 0 0) (x := .int .i64 0) (by first | exact .head _ | exact .tail _ (.head _) | exact .tail _ (.tail _ (.head _)) | exact .tail _ (.tail _ (.tail _ (.head _))) | exact .tail _ (.tail _ (.tail _ (.tail _ (.head _)))) | exact .tail _ (.tail _ (.tail _ (.tail _ (.tail _ (.head _)))))); have zn0 := Nat.ne_of_lt p00c; have zm0 := Ne.symm zn0; have zn1 := Nat.ne_of_lt p01c; have zm1 := Ne.symm zn1) | (have zz := ZB0; obtain ⟨z0, z1, z2, z3⟩ := HM15.out.cells3 (b := W12.heap.size) (t := 31) (u := .int .i64 0) (v := .slice none 0 0) (x := .int .i64 0) (by first | exact .head _ | exact .tail _ (.head _) | exact .tail _ (.tail _ (.head _)) | exact .tail _ (.tail _ (.tail _ (.head _))) | exact .tail _ (.tail _ (.tail _ (.tail _ (.head _)))) | exact .tail _ (.tail _ (.tail _ (.tail _ (.tail _ (.head _)))))); obtain ⟨zf0, zf1, zf2⟩ := HM15.out.lts3 (b := W12.heap.size) (t := 31) (u := .int .i64 0) (v := .slice none 0 0) (x := .int .i64 0) (by first | exact .head _ | exact .tail _ (.head _) | exact .tail _ (.tail _ (.head _)) | exact .tail _ (.tail _ (.tail _ (.head _))) | exact .tail _ (.tail _ (.tail _ (.tail _ (.head _)))) | exact .tail _ (.tail _ (.tail _ (.tail _ (.tail _ (.head _)))))); have zn0 := Nat.ne_of_lt cb0c; have zm0 := Ne.symm zn0; have zn1 := Nat.ne_of_lt cb1c; have zm1 := Ne.symm zn1) | skip); clear hR hb))
    all_goals go_wp2_with fail
    all_goals go_meet
    all_goals first
      | exact ⟨rfl, _, F9, f9, _, _, rfl, Lib.hid ((Mem.box HM15.out _ _).sub (List.Sublist.cons_cons _ (List.Sublist.cons_cons _ (List.Sublist.cons _ (List.Sublist.cons _ (List.Sublist.refl _))))))⟩
      | exact ⟨rfl, _, F9, f9, _, _, rfl, Lib.hid (((Mem.fill3 (bf := [_]) HM15.out HM14.out.1.size).sub (List.Sublist.cons_cons _ (List.Sublist.cons_cons _ (List.Sublist.cons _ (List.Sublist.cons _ (List.Sublist.refl _)))))).swap)⟩
      | exact ⟨rfl, _, F9, f9, _, _, rfl, Lib.hid (((Mem.fill3 (bf := [_, _]) HM15.out HM13.out.1.size).sub (List.Sublist.cons_cons _ (List.Sublist.cons _ (List.Sublist.cons_cons _ (List.Sublist.cons _ (List.Sublist.refl _)))))).swap)⟩
      | exact ⟨rfl, _, F9, f9, _, _, rfl, Lib.hid (((Mem.fill3 (bf := [_, _, _]) HM15.out HM12.out.1.size).sub (List.Sublist.cons_cons _ (List.Sublist.cons _ (List.Sublist.cons _ (List.Sublist.cons_cons _ (List.Sublist.refl _)))))).swap)⟩
  case rest =>
  obtain rfl := HES.out
  clear HES
  clear cb1a cb1b cb1e cb1c cb0a cb0b cb0e cb0c
  clear HM12 T0x T1x
  obtain ⟨rfl, b16, A16, d16, lo16, hi16, rfl, HM16⟩ := hcut
  obtain ⟨cb16a, cb16b, cb16e, cb16c⟩ := HM16.out.cells3 (.head _)
  obtain ⟨cb1a, cb1b, cb1e, cb1c⟩ := HM16.out.cells3 (.tail _ (.tail _ (.head _)))
  obtain ⟨cb0a, cb0b, cb0e, cb0c⟩ := HM16.out.cells3 (.tail _ (.tail _ (.tail _ (.head _))))
  go_wp2_with fail
  refine (T0.out _ HM16.out.1).mono ?_
  rintro e W17 ⟨u17, rfl, hR, hb⟩
  obtain ⟨A17, d17, rfl⟩ := Kd.R_slice hR
  have HM17 := Lib.hid (Mem.row HM16.out hR hb)
  clear hR hb HM16
  clear cb16a cb16b cb16e cb16c cb1a cb1b cb1e cb1c cb0a cb0b cb0e cb0c
  obtain ⟨cb16a, cb16b, cb16e, cb16c⟩ := HM17.out.cells3 (.tail _ (.head _))
  obtain ⟨cb1a, cb1b, cb1e, cb1c⟩ := HM17.out.cells3 (.tail _ (.tail _ (.tail _ (.head _))))
  obtain ⟨cb0a, cb0b, cb0e, cb0c⟩ := HM17.out.cells3 (.tail _ (.tail _ (.tail _ (.tail _ (.head _)))))
  go_wp2_with fail
  have HM18 := Lib.hid (Mem.box HM17.out 31 #[.int .i64 s0, .slice A17 l0.length d17, .int .i64 e0])
  clear HM17
  generalize hW : W17.alloc (.cells #[.int .i64 s0, .slice A17 l0.length d17, .int .i64 e0] 31) = W18 at HM18 ⊢
  clear hW
  generalize hb : W17.heap.size = b18 at HM18 ⊢
  refine (T1.out _ HM18.out.1).mono ?_
  rintro e W19 ⟨u19, rfl, hR, hb⟩
  obtain ⟨A19, d19, rfl⟩ := Kd.R_slice hR
  have HM19 := Lib.hid (Mem.row HM18.out hR hb)
  clear hR hb HM18
  clear cb16a cb16b cb16e cb16c cb1a cb1b cb1e cb1c cb0a cb0b cb0e cb0c
  obtain ⟨cb18a, cb18b, cb18e, cb18c⟩ := HM19.out.cells3 (.tail _ (.head _))
  obtain ⟨cb16a, cb16b, cb16e, cb16c⟩ := HM19.out.cells3 (.tail _ (.tail _ (.tail _ (.head _))))
  obtain ⟨cb1a, cb1b, cb1e, cb1c⟩ := HM19.out.cells3 (.tail _ (.tail _ (.tail _ (.tail _ (.tail _ (.head _))))))
  obtain ⟨cb0a, cb0b, cb0e, cb0c⟩ := HM19.out.cells3 (.tail _ (.tail _ (.tail _ (.tail _ (.tail _ (.tail _ (.head _)))))))
  go_wp2_with fail
  have HM20 := Lib.hid (Mem.box HM19.out 31 #[.int .i64 s1, .slice A19 l1.length d19, .int .i64 e1])
  clear HM19
  generalize hW : W19.alloc (.cells #[.int .i64 s1, .slice A19 l1.length d19, .int .i64 e1] 31) = W20 at HM20 ⊢
  clear hW
  generalize hb : W19.heap.size = b20 at HM20 ⊢
  refine (IM.out _ _ _ _ _ (HM20.out.reads (.tail _ (.tail _ (.tail _ (.head _))))).1 (HM20.out.reads (.tail _ (.tail _ (.tail _ (.head _))))).2 (HM20.out.reads (.tail _ (.head _))).1 (HM20.out.reads (.tail _ (.head _))).2).mono ?_
  rintro e W21 ⟨u21, rfl, hR, hb⟩
  obtain ⟨A21, d21, rfl⟩ := Kd.R_slice hR
  have HM21 := Lib.hid (Mem.row HM20.out hR hb)
  clear hR hb HM20
  clear cb18a cb18b cb18e cb18c cb16a cb16b cb16e cb16c cb1a cb1b cb1e cb1c cb0a cb0b cb0e cb0c
  obtain ⟨cb20a, cb20b, cb20e, cb20c⟩ := HM21.out.cells3 (.tail _ (.head _))
  obtain ⟨cb18a, cb18b, cb18e, cb18c⟩ := HM21.out.cells3 (.tail _ (.tail _ (.tail _ (.head _))))
  obtain ⟨cb16a, cb16b, cb16e, cb16c⟩ := HM21.out.cells3 (.tail _ (.tail _ (.tail _ (.tail _ (.tail _ (.head _))))))
  obtain ⟨cb1a, cb1b, cb1e, cb1c⟩ := HM21.out.cells3 (.tail _ (.tail _ (.tail _ (.tail _ (.tail _ (.tail _ (.tail _ (.head _))))))))
  obtain ⟨cb0a, cb0b, cb0e, cb0c⟩ := HM21.out.cells3 (.tail _ (.tail _ (.tail _ (.tail _ (.tail _ (.tail _ (.tail _ (.tail _ (.head _)))))))))
  go_wp2_with fail
  have HM22 := Lib.hid (Mem.box HM21.out 31 #[.int .i64 g, .slice A21 gl.length d21, .int .i64 ge])
  clear HM21
  generalize hW : W21.alloc (.cells #[.int .i64 g, .slice A21 gl.length d21, .int .i64 ge] 31) = W22 at HM22 ⊢
  clear hW
  generalize hb : W21.heap.size = b22 at HM22 ⊢
  refine (EG.out _ _ _ _ _ (HM22.out.reads (.tail _ (.head _))).1 (HM22.out.reads (.tail _ (.head _))).2 (HM22.out.reads (.tail _ (.tail _ (.tail _ (.tail _ (.tail _ (.tail _ (.tail _ (.head _))))))))).1 (HM22.out.reads (.tail _ (.tail _ (.tail _ (.tail _ (.tail _ (.tail _ (.tail _ (.head _))))))))).2).mono ?_
  rintro e W23 ⟨rfl, hb⟩
  have HM23 := Lib.hid (Mem.below HM22.out hb)
  clear hb HM22
  clear cb20a cb20b cb20e cb20c cb18a cb18b cb18e cb18c cb16a cb16b cb16e cb16c cb1a cb1b cb1e cb1c cb0a cb0b cb0e cb0c
  obtain ⟨cb22a, cb22b, cb22e, cb22c⟩ := HM23.out.cells3 (.head _)
  obtain ⟨cb20a, cb20b, cb20e, cb20c⟩ := HM23.out.cells3 (.tail _ (.tail _ (.head _)))
  obtain ⟨cb18a, cb18b, cb18e, cb18c⟩ := HM23.out.cells3 (.tail _ (.tail _ (.tail _ (.tail _ (.head _)))))
  obtain ⟨cb16a, cb16b, cb16e, cb16c⟩ := HM23.out.cells3 (.tail _ (.tail _ (.tail _ (.tail _ (.tail _ (.tail _ (.head _)))))))
  obtain ⟨cb1a, cb1b, cb1e, cb1c⟩ := HM23.out.cells3 (.tail _ (.tail _ (.tail _ (.tail _ (.tail _ (.tail _ (.tail _ (.tail _ (.head _)))))))))
  obtain ⟨cb0a, cb0b, cb0e, cb0c⟩ := HM23.out.cells3 (.tail _ (.tail _ (.tail _ (.tail _ (.tail _ (.tail _ (.tail _ (.tail _ (.tail _ (.head _))))))))))
  go_wp2_with fail
  have TX := T0
  go_region_held3 (fun w' => w'.cell? ⟨b18, 0, none⟩ = some (.int .i64 s0) ∧ w'.cell? ⟨b18, 1, none⟩ = some (.slice A17 l0.length d17) ∧ w'.cell? ⟨b18, 2, none⟩ = some (.int .i64 e0) ∧ w'.cell? ⟨b0, 0, none⟩ = some (.int .i64 s0) ∧ w'.cell? ⟨b0, 1, none⟩ = some (.slice A0 l0.length c0) ∧ w'.cell? ⟨b0, 2, none⟩ = some (.int .i64 e0)) (go_keep)
    (first
      | (go_at_call 24; refine (TX.out _ (Mem.drew HM23.out).1).mono ?_; rintro e W24 ⟨u24, rfl, hR, hb⟩; obtain ⟨A24, d24, rfl⟩ := Kd.R_slice hR; have HM24 := Lib.hid (Mem.row (Mem.drew HM23.out) hR hb); obtain ⟨cb22a, cb22b, cb22e, cb22c⟩ := HM24.out.cells3 (.tail _ (.head _)); obtain ⟨cb20a, cb20b, cb20e, cb20c⟩ := HM24.out.cells3 (.tail _ (.tail _ (.tail _ (.head _)))); obtain ⟨cb18a, cb18b, cb18e, cb18c⟩ := HM24.out.cells3 (.tail _ (.tail _ (.tail _ (.tail _ (.tail _ (.head _)))))); obtain ⟨cb16a, cb16b, cb16e, cb16c⟩ := HM24.out.cells3 (.tail _ (.tail _ (.tail _ (.tail _ (.tail _ (.tail _ (.tail _ (.head _)))))))); obtain ⟨cb1a, cb1b, cb1e, cb1c⟩ := HM24.out.cells3 (.tail _ (.tail _ (.tail _ (.tail _ (.tail _ (.tail _ (.tail _ (.tail _ (.tail _ (.head _)))))))))); obtain ⟨cb0a, cb0b, cb0e, cb0c⟩ := HM24.out.cells3 (.tail _ (.tail _ (.tail _ (.tail _ (.tail _ (.tail _ (.tail _ (.tail _ (.tail _ (.tail _ (.head _))))))))))); clear hR hb TX)
      | (go_at_call 26; refine (E0.out _ _ _ _ _ (HM24.out.reads (.tail _ (.tail _ (.tail _ (.tail _ (.tail _ (.tail _ (.head _)))))))).1 (HM24.out.reads (.tail _ (.tail _ (.tail _ (.tail _ (.tail _ (.tail _ (.head _)))))))).2 (HM24.out.reads (.head _)).1 (HM24.out.reads (.head _)).2).mono ?_; rintro e W25 ⟨rfl, hb⟩; have HM25 := Lib.hid (Mem.below HM24.out hb).tail; obtain ⟨cb22a, cb22b, cb22e, cb22c⟩ := HM25.out.cells3 (.head _); obtain ⟨cb20a, cb20b, cb20e, cb20c⟩ := HM25.out.cells3 (.tail _ (.tail _ (.head _))); obtain ⟨cb18a, cb18b, cb18e, cb18c⟩ := HM25.out.cells3 (.tail _ (.tail _ (.tail _ (.tail _ (.head _))))); obtain ⟨cb16a, cb16b, cb16e, cb16c⟩ := HM25.out.cells3 (.tail _ (.tail _ (.tail _ (.tail _ (.tail _ (.tail _ (.head _))))))); obtain ⟨cb1a, cb1b, cb1e, cb1c⟩ := HM25.out.cells3 (.tail _ (.tail _ (.tail _ (.tail _ (.tail _ (.tail _ (.tail _ (.tail _ (.head _))))))))); obtain ⟨cb0a, cb0b, cb0e, cb0c⟩ := HM25.out.cells3 (.tail _ (.tail _ (.tail _ (.tail _ (.tail _ (.tail _ (.tail _ (.tail _ (.tail _ (.head _)))))))))); clear hb))
  go_wp2_with fail
  clear HM23 HM24
  have TX := T1
  go_region_held3 (fun w' => w'.cell? ⟨b20, 0, none⟩ = some (.int .i64 s1) ∧ w'.cell? ⟨b20, 1, none⟩ = some (.slice A19 l1.length d19) ∧ w'.cell? ⟨b20, 2, none⟩ = some (.int .i64 e1) ∧ w'.cell? ⟨b1, 0, none⟩ = some (.int .i64 s1) ∧ w'.cell? ⟨b1, 1, none⟩ = some (.slice A1 l1.length c1) ∧ w'.cell? ⟨b1, 2, none⟩ = some (.int .i64 e1)) (go_keep)
    (first
      | (go_at_call 24; refine (TX.out _ (Mem.drew HM25.out).1).mono ?_; rintro e W26 ⟨u26, rfl, hR, hb⟩; obtain ⟨A26, d26, rfl⟩ := Kd.R_slice hR; have HM26 := Lib.hid (Mem.row (Mem.drew HM25.out) hR hb); obtain ⟨cb22a, cb22b, cb22e, cb22c⟩ := HM26.out.cells3 (.tail _ (.head _)); obtain ⟨cb20a, cb20b, cb20e, cb20c⟩ := HM26.out.cells3 (.tail _ (.tail _ (.tail _ (.head _)))); obtain ⟨cb18a, cb18b, cb18e, cb18c⟩ := HM26.out.cells3 (.tail _ (.tail _ (.tail _ (.tail _ (.tail _ (.head _)))))); obtain ⟨cb16a, cb16b, cb16e, cb16c⟩ := HM26.out.cells3 (.tail _ (.tail _ (.tail _ (.tail _ (.tail _ (.tail _ (.tail _ (.head _)))))))); obtain ⟨cb1a, cb1b, cb1e, cb1c⟩ := HM26.out.cells3 (.tail _ (.tail _ (.tail _ (.tail _ (.tail _ (.tail _ (.tail _ (.tail _ (.tail _ (.head _)))))))))); obtain ⟨cb0a, cb0b, cb0e, cb0c⟩ := HM26.out.cells3 (.tail _ (.tail _ (.tail _ (.tail _ (.tail _ (.tail _ (.tail _ (.tail _ (.tail _ (.tail _ (.head _))))))))))); clear hR hb TX)
      | (go_at_call 26; refine (E1.out _ _ _ _ _ (HM26.out.reads (.tail _ (.tail _ (.tail _ (.tail _ (.head _)))))).1 (HM26.out.reads (.tail _ (.tail _ (.tail _ (.tail _ (.head _)))))).2 (HM26.out.reads (.head _)).1 (HM26.out.reads (.head _)).2).mono ?_; rintro e W27 ⟨rfl, hb⟩; have HM27 := Lib.hid (Mem.below HM26.out hb).tail; obtain ⟨cb22a, cb22b, cb22e, cb22c⟩ := HM27.out.cells3 (.head _); obtain ⟨cb20a, cb20b, cb20e, cb20c⟩ := HM27.out.cells3 (.tail _ (.tail _ (.head _))); obtain ⟨cb18a, cb18b, cb18e, cb18c⟩ := HM27.out.cells3 (.tail _ (.tail _ (.tail _ (.tail _ (.head _))))); obtain ⟨cb16a, cb16b, cb16e, cb16c⟩ := HM27.out.cells3 (.tail _ (.tail _ (.tail _ (.tail _ (.tail _ (.tail _ (.head _))))))); obtain ⟨cb1a, cb1b, cb1e, cb1c⟩ := HM27.out.cells3 (.tail _ (.tail _ (.tail _ (.tail _ (.tail _ (.tail _ (.tail _ (.tail _ (.head _))))))))); obtain ⟨cb0a, cb0b, cb0e, cb0c⟩ := HM27.out.cells3 (.tail _ (.tail _ (.tail _ (.tail _ (.tail _ (.tail _ (.tail _ (.tail _ (.tail _ (.head _)))))))))); clear hb))
  go_wp2_with fail
  clear HM25 HM26
  refine (M0.out _ _ _ HM27.out.1 (HM27.out.own (.tail _ (.tail _ (.tail _ (.tail _ (.tail _ (.head _)))))))).mono ?_
  rintro e W28 ⟨rfl, hR, hB, hk⟩
  have HM28 := Lib.hid (Mem.mark (bf := [_, _, _, _, _]) HM27.out hR hB hk)
  clear hR hB hk HM27
  clear cb22a cb22b cb22e cb22c cb20a cb20b cb20e cb20c cb18a cb18b cb18e cb18c cb16a cb16b cb16e cb16c cb1a cb1b cb1e cb1c cb0a cb0b cb0e cb0c
  obtain ⟨cb22a, cb22b, cb22e, cb22c⟩ := HM28.out.cells3 (.head _)
  obtain ⟨cb20a, cb20b, cb20e, cb20c⟩ := HM28.out.cells3 (.tail _ (.tail _ (.head _)))
  obtain ⟨cb18a, cb18b, cb18e, cb18c⟩ := HM28.out.cells3 (.tail _ (.tail _ (.tail _ (.tail _ (.head _)))))
  obtain ⟨cb16a, cb16b, cb16e, cb16c⟩ := HM28.out.cells3 (.tail _ (.tail _ (.tail _ (.tail _ (.tail _ (.tail _ (.head _)))))))
  obtain ⟨cb1a, cb1b, cb1e, cb1c⟩ := HM28.out.cells3 (.tail _ (.tail _ (.tail _ (.tail _ (.tail _ (.tail _ (.tail _ (.tail _ (.head _)))))))))
  obtain ⟨cb0a, cb0b, cb0e, cb0c⟩ := HM28.out.cells3 (.tail _ (.tail _ (.tail _ (.tail _ (.tail _ (.tail _ (.tail _ (.tail _ (.tail _ (.head _))))))))))
  go_wp2_with fail
  refine (M1.out _ _ _ HM28.out.1 (HM28.out.own (.tail _ (.tail _ (.tail _ (.head _)))))).mono ?_
  rintro e W29 ⟨rfl, hR, hB, hk⟩
  have HM29 := Lib.hid (Mem.mark (bf := [_, _, _]) HM28.out hR hB hk)
  clear hR hB hk HM28
  clear cb22a cb22b cb22e cb22c cb20a cb20b cb20e cb20c cb18a cb18b cb18e cb18c cb16a cb16b cb16e cb16c cb1a cb1b cb1e cb1c cb0a cb0b cb0e cb0c
  obtain ⟨cb22a, cb22b, cb22e, cb22c⟩ := HM29.out.cells3 (.head _)
  obtain ⟨cb20a, cb20b, cb20e, cb20c⟩ := HM29.out.cells3 (.tail _ (.tail _ (.head _)))
  obtain ⟨cb18a, cb18b, cb18e, cb18c⟩ := HM29.out.cells3 (.tail _ (.tail _ (.tail _ (.tail _ (.head _)))))
  obtain ⟨cb16a, cb16b, cb16e, cb16c⟩ := HM29.out.cells3 (.tail _ (.tail _ (.tail _ (.tail _ (.tail _ (.tail _ (.head _)))))))
  obtain ⟨cb1a, cb1b, cb1e, cb1c⟩ := HM29.out.cells3 (.tail _ (.tail _ (.tail _ (.tail _ (.tail _ (.tail _ (.tail _ (.tail _ (.head _)))))))))
  obtain ⟨cb0a, cb0b, cb0e, cb0c⟩ := HM29.out.cells3 (.tail _ (.tail _ (.tail _ (.tail _ (.tail _ (.tail _ (.tail _ (.tail _ (.tail _ (.head _))))))))))
  go_wp2_with fail
  refine (EG.out _ _ _ _ _ (HM29.out.reads (.tail _ (.head _))).1 (HM29.out.reads (.tail _ (.head _))).2 (HM29.out.reads (.tail _ (.tail _ (.tail _ (.tail _ (.tail _ (.tail _ (.tail _ (.head _))))))))).1 (HM29.out.reads (.tail _ (.tail _ (.tail _ (.tail _ (.tail _ (.tail _ (.tail _ (.head _))))))))).2).mono ?_
  rintro e W30 ⟨rfl, hb⟩
  have HM30 := Lib.hid (Mem.below HM29.out hb)
  clear hb HM29
  clear cb22a cb22b cb22e cb22c cb20a cb20b cb20e cb20c cb18a cb18b cb18e cb18c cb16a cb16b cb16e cb16c cb1a cb1b cb1e cb1c cb0a cb0b cb0e cb0c
  obtain ⟨cb22a, cb22b, cb22e, cb22c⟩ := HM30.out.cells3 (.head _)
  obtain ⟨cb20a, cb20b, cb20e, cb20c⟩ := HM30.out.cells3 (.tail _ (.tail _ (.head _)))
  obtain ⟨cb18a, cb18b, cb18e, cb18c⟩ := HM30.out.cells3 (.tail _ (.tail _ (.tail _ (.tail _ (.head _)))))
  obtain ⟨cb16a, cb16b, cb16e, cb16c⟩ := HM30.out.cells3 (.tail _ (.tail _ (.tail _ (.tail _ (.tail _ (.tail _ (.head _)))))))
  obtain ⟨cb1a, cb1b, cb1e, cb1c⟩ := HM30.out.cells3 (.tail _ (.tail _ (.tail _ (.tail _ (.tail _ (.tail _ (.tail _ (.tail _ (.head _)))))))))
  obtain ⟨cb0a, cb0b, cb0e, cb0c⟩ := HM30.out.cells3 (.tail _ (.tail _ (.tail _ (.tail _ (.tail _ (.tail _ (.tail _ (.tail _ (.tail _ (.head _))))))))))
  go_wp2_with fail
  refine (MG.out _ _ _ HM30.out.1 (HM30.out.own (.tail _ (.head _)))).mono ?_
  rintro e W31 ⟨rfl, hR, hB, hk⟩
  have HM31 := Lib.hid (Mem.mark (bf := [_]) HM30.out hR hB hk)
  clear hR hB hk HM30
  clear cb22a cb22b cb22e cb22c cb20a cb20b cb20e cb20c cb18a cb18b cb18e cb18c cb16a cb16b cb16e cb16c cb1a cb1b cb1e cb1c cb0a cb0b cb0e cb0c
  obtain ⟨cb22a, cb22b, cb22e, cb22c⟩ := HM31.out.cells3 (.head _)
  obtain ⟨cb20a, cb20b, cb20e, cb20c⟩ := HM31.out.cells3 (.tail _ (.tail _ (.head _)))
  obtain ⟨cb18a, cb18b, cb18e, cb18c⟩ := HM31.out.cells3 (.tail _ (.tail _ (.tail _ (.tail _ (.head _)))))
  obtain ⟨cb16a, cb16b, cb16e, cb16c⟩ := HM31.out.cells3 (.tail _ (.tail _ (.tail _ (.tail _ (.tail _ (.tail _ (.head _)))))))
  obtain ⟨cb1a, cb1b, cb1e, cb1c⟩ := HM31.out.cells3 (.tail _ (.tail _ (.tail _ (.tail _ (.tail _ (.tail _ (.tail _ (.tail _ (.head _)))))))))
  obtain ⟨cb0a, cb0b, cb0e, cb0c⟩ := HM31.out.cells3 (.tail _ (.tail _ (.tail _ (.tail _ (.tail _ (.tail _ (.tail _ (.tail _ (.tail _ (.head _))))))))))
  go_wp2_with fail
  refine (HG.out _ _ _ _ (HM31.out.len (.tail _ (.head _))) (HM31.out.reads (.tail _ (.head _))).1 (HM31.out.reads (.tail _ (.head _))).2).mono ?_
  rintro e W32 ⟨rfl, hb⟩
  have HM32 := Lib.hid (Mem.below HM31.out hb)
  clear hb HM31
  clear cb22a cb22b cb22e cb22c cb20a cb20b cb20e cb20c cb18a cb18b cb18e cb18c cb16a cb16b cb16e cb16c cb1a cb1b cb1e cb1c cb0a cb0b cb0e cb0c
  obtain ⟨cb22a, cb22b, cb22e, cb22c⟩ := HM32.out.cells3 (.head _)
  obtain ⟨cb20a, cb20b, cb20e, cb20c⟩ := HM32.out.cells3 (.tail _ (.tail _ (.head _)))
  obtain ⟨cb18a, cb18b, cb18e, cb18c⟩ := HM32.out.cells3 (.tail _ (.tail _ (.tail _ (.tail _ (.head _)))))
  obtain ⟨cb16a, cb16b, cb16e, cb16c⟩ := HM32.out.cells3 (.tail _ (.tail _ (.tail _ (.tail _ (.tail _ (.tail _ (.head _)))))))
  obtain ⟨cb1a, cb1b, cb1e, cb1c⟩ := HM32.out.cells3 (.tail _ (.tail _ (.tail _ (.tail _ (.tail _ (.tail _ (.tail _ (.tail _ (.head _)))))))))
  obtain ⟨cb0a, cb0b, cb0e, cb0c⟩ := HM32.out.cells3 (.tail _ (.tail _ (.tail _ (.tail _ (.tail _ (.tail _ (.tail _ (.tail _ (.tail _ (.head _))))))))))
  go_wp2_with fail
  have T0x := T0
  have T1x := T1
  go_upto_region 31 with fail
  obtain ⟨ES, hES0, hES⟩ := HM32.out.list
  have HES := Lib.hid hES
  clear hES hES0
  go_cut [15, 16] (fun v6 v7 wc => v7 = .int .i64 cd ∧ ∃ (bz : Nat) (Az : Option Addr) (dz lo hi : Nat), v6 = .pointer (some ⟨bz, 0, none⟩) ∧ Hid (Mem w wc (.box bz 31 #[.int .i64 g, .slice Az gl.length dz, .int .i64 ge] :: .row (.slice Az gl.length dz) gl lo hi :: ES)))
  case first =>
    obtain rfl := HES.out
    clear HES
    go_region_held3 (fun w' => w'.cell? ⟨b0, 0, none⟩ = some (.int .i64 s0) ∧ w'.cell? ⟨b0, 1, none⟩ = some (.slice A0 l0.length c0) ∧ w'.cell? ⟨b0, 2, none⟩ = some (.int .i64 e0) ∧ w'.cell? ⟨b1, 0, none⟩ = some (.int .i64 s1) ∧ w'.cell? ⟨b1, 1, none⟩ = some (.slice A1 l1.length c1) ∧ w'.cell? ⟨b1, 2, none⟩ = some (.int .i64 e1)) (go_keep)
      (first
        | (go_at_call 24; refine (T0x.out _ (by first | exact (Mem.drew HM32.out).1 | exact (Mem.drew (Mem.box HM32.out 31 #[.int .i64 0, .slice none 0 0, .int .i64 0])).1 | exact (Mem.box (Mem.drew HM32.out) 31 #[.int .i64 0, .slice none 0 0, .int .i64 0]).1)).mono ?_; rintro e W33 ⟨v0, rfl, hR, hb⟩; obtain ⟨F0, f0, rfl⟩ := Kd.R_slice hR; (first | (have HM33 := Lib.hid (Mem.row (Mem.drew HM32.out) hR hb)) | (have HM33 := Lib.hid (Mem.row (Mem.drew (Mem.box HM32.out 31 #[.int .i64 0, .slice none 0 0, .int .i64 0])) hR hb); have ZB0 := Lib.hid True.intro) | (have HM33 := Lib.hid (Mem.row (Mem.box (Mem.drew HM32.out) 31 #[.int .i64 0, .slice none 0 0, .int .i64 0]) hR hb); have ZB0 := Lib.hid True.intro)); (first | (obtain ⟨p00a, p00b, p00e, p00c⟩ := HM33.out.cells3 (b := b0) (t := 26) (u := .int .i64 s0) (v := .slice A0 l0.length c0) (x := .int .i64 e0) (.tail _ (.tail _ (.tail _ (.tail _ (.tail _ (.tail _ (.tail _ (.tail _ (.tail _ (.tail _ (.head _))))))))))); obtain ⟨p01a, p01b, p01e, p01c⟩ := HM33.out.cells3 (b := b1) (t := 26) (u := .int .i64 s1) (v := .slice A1 l1.length c1) (x := .int .i64 e1) (.tail _ (.tail _ (.tail _ (.tail _ (.tail _ (.tail _ (.tail _ (.tail _ (.tail _ (.head _))))))))))) | (obtain ⟨p00a, p00b, p00e, p00c⟩ := HM33.out.cells3 (b := b0) (t := 26) (u := .int .i64 s0) (v := .slice A0 l0.length c0) (x := .int .i64 e0) (.tail _ (.tail _ (.tail _ (.tail _ (.tail _ (.tail _ (.tail _ (.tail _ (.tail _ (.tail _ (.tail _ (.head _)))))))))))); obtain ⟨p01a, p01b, p01e, p01c⟩ := HM33.out.cells3 (b := b1) (t := 26) (u := .int .i64 s1) (v := .slice A1 l1.length c1) (x := .int .i64 e1) (.tail _ (.tail _ (.tail _ (.tail _ (.tail _ (.tail _ (.tail _ (.tail _ (.tail _ (.tail _ (.head _))))))))))))); clear hR hb T0x)
        | (go_at_call 24; refine (T1x.out _ (by first | exact HM33.out.1 | exact (Mem.box HM33.out 31 #[.int .i64 0, .slice none 0 0, .int .i64 0]).1)).mono ?_; rintro e W34 ⟨v1, rfl, hR, hb⟩; obtain ⟨F1, f1, rfl⟩ := Kd.R_slice hR; (first | (have HM34 := Lib.hid (Mem.row HM33.out hR hb)) | (have HM34 := Lib.hid (Mem.row (Mem.box HM33.out 31 #[.int .i64 0, .slice none 0 0, .int .i64 0]) hR hb); have ZB1 := Lib.hid True.intro)); (first | (obtain ⟨p10a, p10b, p10e, p10c⟩ := HM34.out.cells3 (b := b0) (t := 26) (u := .int .i64 s0) (v := .slice A0 l0.length c0) (x := .int .i64 e0) (.tail _ (.tail _ (.tail _ (.tail _ (.tail _ (.tail _ (.tail _ (.tail _ (.tail _ (.tail _ (.tail _ (.head _)))))))))))); obtain ⟨p11a, p11b, p11e, p11c⟩ := HM34.out.cells3 (b := b1) (t := 26) (u := .int .i64 s1) (v := .slice A1 l1.length c1) (x := .int .i64 e1) (.tail _ (.tail _ (.tail _ (.tail _ (.tail _ (.tail _ (.tail _ (.tail _ (.tail _ (.tail _ (.head _)))))))))))) | (obtain ⟨p10a, p10b, p10e, p10c⟩ := HM34.out.cells3 (b := b0) (t := 26) (u := .int .i64 s0) (v := .slice A0 l0.length c0) (x := .int .i64 e0) (.tail _ (.tail _ (.tail _ (.tail _ (.tail _ (.tail _ (.tail _ (.tail _ (.tail _ (.tail _ (.tail _ (.tail _ (.head _))))))))))))); obtain ⟨p11a, p11b, p11e, p11c⟩ := HM34.out.cells3 (b := b1) (t := 26) (u := .int .i64 s1) (v := .slice A1 l1.length c1) (x := .int .i64 e1) (.tail _ (.tail _ (.tail _ (.tail _ (.tail _ (.tail _ (.tail _ (.tail _ (.tail _ (.tail _ (.tail _ (.head _)))))))))))))); clear hR hb T1x)
        | (go_at_call 50; (first | (have HZ := HM34; refine (IM.out _ _ _ _ _ (HZ.out.reads (A := F0) (c := f0) (n := l0.length) (l := l0) (by first | exact .head _ | exact .tail _ (.head _) | exact .tail _ (.tail _ (.head _)) | exact .tail _ (.tail _ (.tail _ (.head _))))).1 (HZ.out.reads (A := F0) (c := f0) (n := l0.length) (l := l0) (by first | exact .head _ | exact .tail _ (.head _) | exact .tail _ (.tail _ (.head _)) | exact .tail _ (.tail _ (.tail _ (.head _))))).2 (HZ.out.reads (A := F1) (c := f1) (n := l1.length) (l := l1) (by first | exact .head _ | exact .tail _ (.head _) | exact .tail _ (.tail _ (.head _)) | exact .tail _ (.tail _ (.tail _ (.head _))))).1 (HZ.out.reads (A := F1) (c := f1) (n := l1.length) (l := l1) (by first | exact .head _ | exact .tail _ (.head _) | exact .tail _ (.tail _ (.head _)) | exact .tail _ (.tail _ (.tail _ (.head _))))).2).mono ?_) | (have HZ := Lib.hid (Mem.box HM34.out 31 #[.int .i64 0, .slice none 0 0, .int .i64 0]); have ZB2 := Lib.hid True.intro; refine (IM.out _ _ _ _ _ (HZ.out.reads (A := F0) (c := f0) (n := l0.length) (l := l0) (by first | exact .head _ | exact .tail _ (.head _) | exact .tail _ (.tail _ (.head _)) | exact .tail _ (.tail _ (.tail _ (.head _))))).1 (HZ.out.reads (A := F0) (c := f0) (n := l0.length) (l := l0) (by first | exact .head _ | exact .tail _ (.head _) | exact .tail _ (.tail _ (.head _)) | exact .tail _ (.tail _ (.tail _ (.head _))))).2 (HZ.out.reads (A := F1) (c := f1) (n := l1.length) (l := l1) (by first | exact .head _ | exact .tail _ (.head _) | exact .tail _ (.tail _ (.head _)) | exact .tail _ (.tail _ (.tail _ (.head _))))).1 (HZ.out.reads (A := F1) (c := f1) (n := l1.length) (l := l1) (by first | exact .head _ | exact .tail _ (.head _) | exact .tail _ (.tail _ (.head _)) | exact .tail _ (.tail _ (.tail _ (.head _))))).2).mono ?_)); rintro e W35 ⟨v9, rfl, hR, hb⟩; obtain ⟨F9, f9, rfl⟩ := Kd.R_slice hR; have HM35 := Lib.hid (Mem.row HZ.out hR hb); (first | (obtain ⟨p20a, p20b, p20e, p20c⟩ := HM35.out.cells3 (b := b0) (t := 26) (u := .int .i64 s0) (v := .slice A0 l0.length c0) (x := .int .i64 e0) (.tail _ (.tail _ (.tail _ (.tail _ (.tail _ (.tail _ (.tail _ (.tail _ (.tail _ (.tail _ (.tail _ (.tail _ (.head _))))))))))))); obtain ⟨p21a, p21b, p21e, p21c⟩ := HM35.out.cells3 (b := b1) (t := 26) (u := .int .i64 s1) (v := .slice A1 l1.length c1) (x := .int .i64 e1) (.tail _ (.tail _ (.tail _ (.tail _ (.tail _ (.tail _ (.tail _ (.tail _ (.tail _ (.tail _ (.tail _ (.head _))))))))))))) | (obtain ⟨p20a, p20b, p20e, p20c⟩ := HM35.out.cells3 (b := b0) (t := 26) (u := .int .i64 s0) (v := .slice A0 l0.length c0) (x := .int .i64 e0) (.tail _ (.tail _ (.tail _ (.tail _ (.tail _ (.tail _ (.tail _ (.tail _ (.tail _ (.tail _ (.tail _ (.tail _ (.tail _ (.head _)))))))))))))); obtain ⟨p21a, p21b, p21e, p21c⟩ := HM35.out.cells3 (b := b1) (t := 26) (u := .int .i64 s1) (v := .slice A1 l1.length c1) (x := .int .i64 e1) (.tail _ (.tail _ (.tail _ (.tail _ (.tail _ (.tail _ (.tail _ (.tail _ (.tail _ (.tail _ (.tail _ (.tail _ (.head _))))))))))))))); (first | (have zz := ZB2; obtain ⟨z0, z1, z2, z3⟩ := HM35.out.cells3 (b := W34.heap.size) (t := 31) (u := .int .i64 0) (v := .slice none 0 0) (x := .int .i64 0) (by first | exact .head _ | exact .tail _ (.head _) | exact .tail _ (.tail _ (.head _)) | exact .tail _ (.tail _ (.tail _ (.head _))) | exact .tail _ (.tail _ (.tail _ (.tail _ (.head _)))) | exact .tail _ (.tail _ (.tail _ (.tail _ (.tail _ (.head _)))))); obtain ⟨zf0, zf1, zf2⟩ := HM35.out.lts3 (b := W34.heap.size) (t := 31) (u := .int .i64 0) (v := .slice none 0 0) (x := .int .i64 0) (by first | exact .head _ | exact .tail _ (.head _) | exact .tail _ (.tail _ (.head _)) | exact .tail _ (.tail _ (.tail _ (.head _))) | exact .tail _ (.tail _ (.tail _ (.tail _ (.head _)))) | exact .tail _ (.tail _ (.tail _ (.tail _ (.tail _ (.head _)))))); have zn0 := Nat.ne_of_lt p10c; have zm0 := Ne.symm zn0; have zn1 := Nat.ne_of_lt p11c; have zm1 := Ne.symm zn1) | (have zz := ZB1; obtain ⟨z0, z1, z2, z3⟩ := HM35.out.cells3 (b := W33.heap.size) (t := 31) (u := .int .i64 0) (v := .slice none 0 0) (x := .int .i64 0) (by first | exact .head _ | exact .tail _ (.head _) | exact .tail _ (.tail _ (.head _)) | exact .tail _ (.tail _ (.tail _ (.head _))) | exact .tail _ (.tail _ (.tail _ (.tail _ (.head _)))) | exact .tail _ (.tail _ (.tail _ (.tail _ (.tail _ (.head _)))))); obtain ⟨zf0, zf1, zf2⟩ := HM35.out.lts3 (b := W33.heap.size) (t := 31) (u := .int .i64 0) (v := .slice none 0 0) (x := .int .i64 0) (by first | exact .head _ | exact .tail _ (.head _) | exact .tail _ (.tail _ (.head _)) | exact .tail _ (.tail _ (.tail _ (.head _))) | exact .tail _ (.tail _ (.tail _ (.tail _ (.head _)))) | exact .tail _ (.tail _ (.tail _ (.tail _ (.tail _ (.head _)))))); have zn0 := Nat.ne_of_lt p00c; have zm0 := Ne.symm zn0; have zn1 := Nat.ne_of_lt p01c; have zm1 := Ne.symm zn1) | (have zz := ZB0; obtain ⟨z0, z1, z2, z3⟩ := HM35.out.cells3 (b := W32.heap.size) (t := 31) (u := .int .i64 0) (v := .slice none 0 0) (x := .int .i64 0) (by first | exact .head _ | exact .tail _ (.head _) | exact .tail _ (.tail _ (.head _)) | exact .tail _ (.tail _ (.tail _ (.head _))) | exact .tail _ (.tail _ (.tail _ (.tail _ (.head _)))) | exact .tail _ (.tail _ (.tail _ (.tail _ (.tail _ (.head _)))))); obtain ⟨zf0, zf1, zf2⟩ := HM35.out.lts3 (b := W32.heap.size) (t := 31) (u := .int .i64 0) (v := .slice none 0 0) (x := .int .i64 0) (by first | exact .head _ | exact .tail _ (.head _) | exact .tail _ (.tail _ (.head _)) | exact .tail _ (.tail _ (.tail _ (.head _))) | exact .tail _ (.tail _ (.tail _ (.tail _ (.head _)))) | exact .tail _ (.tail _ (.tail _ (.tail _ (.tail _ (.head _)))))); have zn0 := Nat.ne_of_lt cb0c; have zm0 := Ne.symm zn0; have zn1 := Nat.ne_of_lt cb1c; have zm1 := Ne.symm zn1) | skip); clear hR hb))
    all_goals go_wp2_with fail
    all_goals go_meet
    all_goals first
      | exact ⟨rfl, _, F9, f9, _, _, rfl, Lib.hid ((Mem.box HM35.out _ _).sub (List.Sublist.cons_cons _ (List.Sublist.cons_cons _ (List.Sublist.cons _ (List.Sublist.cons _ (List.Sublist.refl _))))))⟩
      | exact ⟨rfl, _, F9, f9, _, _, rfl, Lib.hid (((Mem.fill3 (bf := [_]) HM35.out HM34.out.1.size).sub (List.Sublist.cons_cons _ (List.Sublist.cons_cons _ (List.Sublist.cons _ (List.Sublist.cons _ (List.Sublist.refl _)))))).swap)⟩
      | exact ⟨rfl, _, F9, f9, _, _, rfl, Lib.hid (((Mem.fill3 (bf := [_, _]) HM35.out HM33.out.1.size).sub (List.Sublist.cons_cons _ (List.Sublist.cons _ (List.Sublist.cons_cons _ (List.Sublist.cons _ (List.Sublist.refl _)))))).swap)⟩
      | exact ⟨rfl, _, F9, f9, _, _, rfl, Lib.hid (((Mem.fill3 (bf := [_, _, _]) HM35.out HM32.out.1.size).sub (List.Sublist.cons_cons _ (List.Sublist.cons _ (List.Sublist.cons _ (List.Sublist.cons_cons _ (List.Sublist.refl _)))))).swap)⟩
  case rest =>
  obtain rfl := HES.out
  clear HES
  clear cb22a cb22b cb22e cb22c cb20a cb20b cb20e cb20c cb18a cb18b cb18e cb18c cb16a cb16b cb16e cb16c cb1a cb1b cb1e cb1c cb0a cb0b cb0e cb0c
  clear HM32 T0x T1x
  obtain ⟨rfl, b36, A36, d36, lo36, hi36, rfl, HM36⟩ := hcut
  obtain ⟨cb36a, cb36b, cb36e, cb36c⟩ := HM36.out.cells3 (.head _)
  obtain ⟨cb22a, cb22b, cb22e, cb22c⟩ := HM36.out.cells3 (.tail _ (.tail _ (.head _)))
  obtain ⟨cb20a, cb20b, cb20e, cb20c⟩ := HM36.out.cells3 (.tail _ (.tail _ (.tail _ (.tail _ (.head _)))))
  obtain ⟨cb18a, cb18b, cb18e, cb18c⟩ := HM36.out.cells3 (.tail _ (.tail _ (.tail _ (.tail _ (.tail _ (.tail _ (.head _)))))))
  obtain ⟨cb16a, cb16b, cb16e, cb16c⟩ := HM36.out.cells3 (.tail _ (.tail _ (.tail _ (.tail _ (.tail _ (.tail _ (.tail _ (.tail _ (.head _)))))))))
  obtain ⟨cb1a, cb1b, cb1e, cb1c⟩ := HM36.out.cells3 (.tail _ (.tail _ (.tail _ (.tail _ (.tail _ (.tail _ (.tail _ (.tail _ (.tail _ (.tail _ (.head _)))))))))))
  obtain ⟨cb0a, cb0b, cb0e, cb0c⟩ := HM36.out.cells3 (.tail _ (.tail _ (.tail _ (.tail _ (.tail _ (.tail _ (.tail _ (.tail _ (.tail _ (.tail _ (.tail _ (.head _))))))))))))
  go_wp2_with fail
  refine (EG.out _ _ _ _ _ (HM36.out.reads (.tail _ (.head _))).1 (HM36.out.reads (.tail _ (.head _))).2 (HM36.out.reads (.tail _ (.tail _ (.tail _ (.tail _ (.tail _ (.tail _ (.tail _ (.tail _ (.tail _ (.head _))))))))))).1 (HM36.out.reads (.tail _ (.tail _ (.tail _ (.tail _ (.tail _ (.tail _ (.tail _ (.tail _ (.tail _ (.head _))))))))))).2).mono ?_
  rintro e W37 ⟨rfl, hb⟩
  have HM37 := Lib.hid (Mem.below HM36.out hb)
  clear hb HM36
  clear cb36a cb36b cb36e cb36c cb22a cb22b cb22e cb22c cb20a cb20b cb20e cb20c cb18a cb18b cb18e cb18c cb16a cb16b cb16e cb16c cb1a cb1b cb1e cb1c cb0a cb0b cb0e cb0c
  obtain ⟨cb36a, cb36b, cb36e, cb36c⟩ := HM37.out.cells3 (.head _)
  obtain ⟨cb22a, cb22b, cb22e, cb22c⟩ := HM37.out.cells3 (.tail _ (.tail _ (.head _)))
  obtain ⟨cb20a, cb20b, cb20e, cb20c⟩ := HM37.out.cells3 (.tail _ (.tail _ (.tail _ (.tail _ (.head _)))))
  obtain ⟨cb18a, cb18b, cb18e, cb18c⟩ := HM37.out.cells3 (.tail _ (.tail _ (.tail _ (.tail _ (.tail _ (.tail _ (.head _)))))))
  obtain ⟨cb16a, cb16b, cb16e, cb16c⟩ := HM37.out.cells3 (.tail _ (.tail _ (.tail _ (.tail _ (.tail _ (.tail _ (.tail _ (.tail _ (.head _)))))))))
  obtain ⟨cb1a, cb1b, cb1e, cb1c⟩ := HM37.out.cells3 (.tail _ (.tail _ (.tail _ (.tail _ (.tail _ (.tail _ (.tail _ (.tail _ (.tail _ (.tail _ (.head _)))))))))))
  obtain ⟨cb0a, cb0b, cb0e, cb0c⟩ := HM37.out.cells3 (.tail _ (.tail _ (.tail _ (.tail _ (.tail _ (.tail _ (.tail _ (.tail _ (.tail _ (.tail _ (.tail _ (.head _))))))))))))
  go_wp2_with fail
  refine (HG.out _ _ _ _ (HM37.out.len (.tail _ (.tail _ (.tail _ (.head _))))) (HM37.out.reads (.tail _ (.tail _ (.tail _ (.head _))))).1 (HM37.out.reads (.tail _ (.tail _ (.tail _ (.head _))))).2).mono ?_
  rintro e W38 ⟨rfl, hb⟩
  have HM38 := Lib.hid (Mem.below HM37.out hb)
  clear hb HM37
  clear cb36a cb36b cb36e cb36c cb22a cb22b cb22e cb22c cb20a cb20b cb20e cb20c cb18a cb18b cb18e cb18c cb16a cb16b cb16e cb16c cb1a cb1b cb1e cb1c cb0a cb0b cb0e cb0c
  obtain ⟨cb36a, cb36b, cb36e, cb36c⟩ := HM38.out.cells3 (.head _)
  obtain ⟨cb22a, cb22b, cb22e, cb22c⟩ := HM38.out.cells3 (.tail _ (.tail _ (.head _)))
  obtain ⟨cb20a, cb20b, cb20e, cb20c⟩ := HM38.out.cells3 (.tail _ (.tail _ (.tail _ (.tail _ (.head _)))))
  obtain ⟨cb18a, cb18b, cb18e, cb18c⟩ := HM38.out.cells3 (.tail _ (.tail _ (.tail _ (.tail _ (.tail _ (.tail _ (.head _)))))))
  obtain ⟨cb16a, cb16b, cb16e, cb16c⟩ := HM38.out.cells3 (.tail _ (.tail _ (.tail _ (.tail _ (.tail _ (.tail _ (.tail _ (.tail _ (.head _)))))))))
  obtain ⟨cb1a, cb1b, cb1e, cb1c⟩ := HM38.out.cells3 (.tail _ (.tail _ (.tail _ (.tail _ (.tail _ (.tail _ (.tail _ (.tail _ (.tail _ (.tail _ (.head _)))))))))))
  obtain ⟨cb0a, cb0b, cb0e, cb0c⟩ := HM38.out.cells3 (.tail _ (.tail _ (.tail _ (.tail _ (.tail _ (.tail _ (.tail _ (.tail _ (.tail _ (.tail _ (.tail _ (.head _))))))))))))
  go_wp2
  go_ret
  exact ⟨rfl, HM38.out.1⟩
end Go.Proofs.Ytdboepiobaehkaa.KSubtractDyadics
end
section
namespace Go.Proofs.Ytdboepiobaehkaa.Qc
open Go.RowKit Go.Proofs.YtdboepiobaehkaaW.PrintWords Go.Proofs.Ytdboepiobaehkaa.PW Go.Proofs.Ytdboepiobaehkaa.Pb Go.Proofs.Ytdboepiobaehkaa.Pc Go.Proofs.Ytdboepiobaehkaa.Pm Go.Proofs.Ytdboepiobaehkaa.Pw Go.Proofs.Ytdboepiobaehkaa.Px Go.Proofs.Ytdboepiobaehkaa.Pt Go.Proofs.Ytdboepiobaehkaa.Pz Go.Proofs.Ytdboepiobaehkaa.Pzs Go.Proofs.Ytdboepiobaehkaa.Ss Go.Proofs.Ytdboepiobaehkaa.St Go.Proofs.Ytdboepiobaehkaa.Sm Go.Proofs.Ytdboepiobaehkaa.Qa Go.Proofs.Ytdboepiobaehkaa.Qb Go.Proofs.Ytdboepiobaehkaa.Mu Go.Proofs.Ytdboepiobaehkaa.Nc Dg
set_option linter.unusedVariables false
set_option linter.unusedSimpArgs false
theorem bl_two (z : Int) (k : Nat) : bl (z * 2 ^ k).natAbs ≤ bl z.natAbs + k := by
  rw [Int.natAbs_mul, show ((2 : Int) ^ k).natAbs = 2 ^ k by rw [Int.natAbs_pow]; rfl]
  exact bl_shift_le _ _
theorem mn_min (a b : Int) : mn a b = min a b := by
  unfold mn
  split <;> omega
theorem saddD (x y e f : Int) (hx : bl x.natAbs ≤ 100000000) (hy : bl y.natAbs ≤ 100000000) (h1 : -1000000 ≤ e) (h2 : e ≤ 1000000) (h3 : -1000000 ≤ f) (h4 : f ≤ 1000000) :
    Ev (fun k => spec_l03Add.f k (sgn x) (L x.natAbs) e (sgn y) (L y.natAbs) f) (dy (addz x e y f) (adde x e y f)) := by
  unfold spec_l03Add.f addz adde
  by_cases hx0 : x = 0
  · rw [if_pos hx0, if_pos hx0]
    exact ifp (sgn_zero.2 hx0) (Ev.bind (f := fun k t => _) (smakeD y f (by omega) (by omega) (by omega)) (ev_of fun _ => rfl))
  · rw [if_neg hx0, if_neg hx0]
    refine ifn (fun h => hx0 (sgn_zero.1 h)) ?_
    by_cases hy0 : y = 0
    · rw [if_pos hy0, if_pos hy0]
      exact ifp (sgn_zero.2 hy0) (Ev.bind (f := fun k t => _) (smakeD x e (by omega) (by omega) (by omega)) (ev_of fun _ => rfl))
    · rw [if_neg hy0, if_neg hy0]
      refine ifn (fun h => hy0 (sgn_zero.1 h)) ?_
      rw [mn_min, wrapZ (e - min e f) (by omega) (by omega), wrapZ (f - min e f) (by omega) (by omega)]
      have ea : e - min e f = ((e - min e f).toNat : Nat) := by omega
      have eb : f - min e f = ((f - min e f).toNat : Nat) := by omega
      have sa := sleft x (e - min e f).toNat (by omega) (by omega)
      have sb := sleft y (f - min e f).toNat (by omega) (by omega)
      rw [← ea] at sa
      rw [← eb] at sb
      have ba := bl_two x (e - min e f).toNat
      have bb := bl_two y (f - min e f).toNat
      have bc := bl_add_natAbs (x * 2 ^ (e - min e f).toNat) (y * 2 ^ (f - min e f).toNat)
      refine Ev.bind (f := fun k t => _) sa (Ev.bind (f := fun k t => _) sb (Ev.bind (f := fun k t => _) (sadd _ _ (by omega) (by omega)) ?_))
      exact Ev.bind (f := fun k t => _) (smakeD _ (min e f) (by omega) (by omega) (by omega)) (ev_of fun _ => rfl)
theorem ssubD (x y e f : Int) (hx : bl x.natAbs ≤ 100000000) (hy : bl y.natAbs ≤ 100000000) (h1 : -1000000 ≤ e) (h2 : e ≤ 1000000) (h3 : -1000000 ≤ f) (h4 : f ≤ 1000000) :
    Ev (fun k => spec_l03Sub.f k (sgn x) (L x.natAbs) e (sgn y) (L y.natAbs) f) (dy (addz x e (-y) f) (adde x e (-y) f)) := by
  have hn : Ev (fun k => spec_l03Neg.f k (sgn y) (L y.natAbs) f) (sgn (-y), L (-y).natAbs, f) := by
    unfold spec_l03Neg.f
    rw [Int.natAbs_neg]
    exact Ev.bind (f := fun k t => _) (sneg y (by omega)) (ev_of fun _ => rfl)
  unfold spec_l03Sub.f
  exact Ev.bind (f := fun k t => _) hn (Ev.bind (f := fun k t => _) (saddD x (-y) e f hx (by rw [Int.natAbs_neg]; exact hy) h1 h2 h3 h4) (ev_of fun _ => rfl))
end Go.Proofs.Ytdboepiobaehkaa.Qc
end
