/- Lemmas of the claim: Mf, Mg, Mh, Mi, Mj, Mk, Ml, Mn, Mo, Mq, Mr, Mu, Re, Rf, Na, Nc, Qc, Sl, Ha, Hs, Nr, Hc, Nd, Sr, Nf, Ng, Vr, Va, Vb. -/
import Derived.RegionTactic
import Derived.ChangeAlike
import Derived.Laws.CopyOwn
import Derived.Deep.OwnRows
import Derived.Test.YtjggbalhpflbbaaGreatQERo
import Derived.Test.YtjggbalhpflbbaaGreatQERi
import Derived.Deep.RegionLaw
import Derived.Test.YtjggbalhpflbbaaGreatQERc
import Derived.Test.YtjggbalhpflbbaaGreatQERk
import Derived.Test.YtjggbalhpflbbaaGreatQERh
import Derived.Test.YtjggbalhpflbbaaGreatQERa
import Derived.Test.YtjggbalhpflbbaaGreatQERj
import Derived.Test.YtjggbalhpflbbaaGreatQERg
import Derived.OwnWalk
section
set_option linter.unusedVariables false
set_option linter.unusedSimpArgs false
namespace Go.Proofs.YtjggbalhpflbbaaGreat.Mf
open Go.RowKit Go.Proofs.YtjggbalhpflbbaaGreatW.PrintWords Go.Proofs.YtjggbalhpflbbaaGreat.PW Go.Proofs.YtjggbalhpflbbaaGreat.Pc Go.Proofs.YtjggbalhpflbbaaGreat.Ma Go.Proofs.YtjggbalhpflbbaaGreat.Mb Go.Proofs.YtjggbalhpflbbaaGreat.Mc Go.Proofs.YtjggbalhpflbbaaGreat.Md Go.Proofs.YtjggbalhpflbbaaGreat.Me Dg
theorem D_or (a b i : Nat) : (D (a ||| b)).getD i 0 = (((a / 4294967296 ^ i % 4294967296) ||| (b / 4294967296 ^ i % 4294967296) : Nat) : Int) := by
  rw [D_getD]
  congr 1
  rw [show (4294967296 : Nat) = 2 ^ 32 from rfl, ← Nat.pow_mul]
  have h1 : (a ||| b) / 2 ^ (32 * i) = a / 2 ^ (32 * i) ||| b / 2 ^ (32 * i) := by
    rw [← Nat.shiftRight_eq_div_pow, ← Nat.shiftRight_eq_div_pow, ← Nat.shiftRight_eq_div_pow, Nat.shiftRight_or_distrib]
  rw [h1, Nat.or_mod_two_pow]
theorem or_list {a b : Nat} {ys : List Int} (hl : ys.length = max (D a).length (D b).length) (h : ∀ j, j < ys.length → ys.getD j 0 = bits .or .u32 ((D a).getD j 0) ((D b).getD j 0)) : Dig 4294967296 ys ∧ val 4294967296 ys = ((a ||| b : Nat) : Int) := by
  have hb : ∀ j, bits .or .u32 ((D a).getD j 0) ((D b).getD j 0) = (((a ||| b) / 4294967296 ^ j % 4294967296 : Nat) : Int) := by
    intro j
    rw [← D_getD, D_or, D_getD, D_getD]
    exact (bits_nat .u32 32 (by decide) Po.wraps_u32 _ _ (Nat.mod_lt _ (by decide)) (Nat.mod_lt _ (by decide))).2
  have h2 : ∀ j, j < ys.length → ys.getD j 0 = (((a ||| b) / 4294967296 ^ j % 4294967296 : Nat) : Int) := fun j hj => by rw [h j hj, hb]
  constructor
  · exact dig_of_getD fun j hj => by rw [h2 j hj]; have := Nat.mod_lt ((a ||| b) / 4294967296 ^ j) (show 0 < 4294967296 by decide); omega
  · rw [val_digits (by decide) ys (a ||| b) h2]
    congr 1
    apply Nat.mod_eq_of_lt
    have e : (4294967296 : Nat) = 2 ^ 32 := rfl
    rw [e, ← Nat.pow_mul]
    apply Nat.or_lt_two_pow
    · have := D_bl a
      have h3 := lt_bl a
      have := Nat.pow_le_pow_right (n := 2) (by decide) (show bl a ≤ 32 * ys.length by omega)
      omega
    · have := D_bl b
      have h3 := lt_bl b
      have := Nat.pow_le_pow_right (n := 2) (by decide) (show bl b ≤ 32 * ys.length by omega)
      omega
theorem made_list (n : Nat) : (madeCells #[Value.int .u32 0] n).toList = (List.replicate n (0 : Int)).map (Value.int .u32) := by
  apply List.ext_getElem
  · simp [madeCells]
  · intro i h1 h2
    simp [madeCells, Nat.mod_one]
theorem splice_list {a : List Int} {n : Nat} (h : a.length ≤ n) : splice ((List.replicate n (0 : Int)).map (Value.int .u32)) 0 (a.map (Value.int .u32)) = (a ++ List.replicate (n - a.length) 0).map (Value.int .u32) := by
  unfold splice
  simp
theorem append_zeros_getD (a : List Int) (k j : Nat) : (a ++ List.replicate k (0 : Int)).getD j 0 = a.getD j 0 := by
  rcases Nat.lt_or_ge j a.length with h | h
  · simp [List.getD, List.getElem?_append_left h]
  · rw [getD_ge h]
    simp [List.getD, List.getElem?_append_right h, List.getElem?_replicate]
    split <;> rfl
def OrTo (a b : Nat) (m i : Nat) (ys : List Int) : Prop := ys.length = m ∧ (∀ j, j < i → ys.getD j 0 = bits .or .u32 ((D a).getD j 0) ((D b).getD j 0)) ∧ (∀ j, i ≤ j → ys.getD j 0 = (D a).getD j 0)
theorem OrTo.step {a b m i : Nat} {ys : List Int} (h : OrTo a b m i ys) (hi : i < m) : OrTo a b m (i + 1) (ys.set i (bits .or .u32 ((D a).getD i 0) ((D b).getD i 0))) := by
  obtain ⟨h1, h2, h3⟩ := h
  refine ⟨by simpa using h1, fun j hj => ?_, fun j hj => ?_⟩
  · by_cases e : j = i
    · subst e; rw [Dg.getD_set_eq (by omega)]
    · rw [Dg.getD_set_ne (by omega)]; exact h2 j (by omega)
  · rw [Dg.getD_set_ne (by omega)]; exact h3 j (by omega)
theorem or_zero (a j : Nat) : bits .or .u32 ((D a).getD j 0) 0 = (D a).getD j 0 := by
  have := (bits_nat .u32 32 (by decide) Po.wraps_u32 (a / 4294967296 ^ j % 4294967296) 0 (Nat.mod_lt _ (by decide)) (by decide)).2
  rw [D_getD]
  simpa using this
theorem OrTo.done {a b m : Nat} {ys : List Int} (h : OrTo a b m (D b).length ys) (hm : m = max (D a).length (D b).length) : Dig 4294967296 ys ∧ val 4294967296 ys = ((a ||| b : Nat) : Int) := by
  obtain ⟨h1, h2, h3⟩ := h
  refine or_list (by omega) fun j hj => ?_
  by_cases hjb : j < (D b).length
  · exact h2 j hjb
  · rw [h3 j (by omega), getD_ge (l := D b) (by omega), or_zero]
theorem nums_set {ys : List Int} {i : Nat} {x : Int} : (ys.map (Value.int .u32)).toArray.setIfInBounds i (.int .u32 x) = ((ys.set i x).map (Value.int .u32)).toArray := by
  simp [List.map_set]
theorem sizeU : (Tryz.prog.info? 103).map (·.size) = some 1 := by kernel_rfl
set_option maxHeartbeats 1600000 in
set_option maxRecDepth 100000 in
theorem orr {w : World} {p q s : Nat} {x y : Int} (hp : Blk w p) (hx : Z w q x) (hy : Z w s y) (h1 : bl x.natAbs ≤ 536870912) (h2 : bl y.natAbs ≤ 536870912) :
    Calls Tryz.prog 86 #[.pointer (some ⟨p, 0, none⟩), .pointer (some ⟨q, 0, none⟩), .pointer (some ⟨s, 0, none⟩)] w (Puts w p ((x.natAbs ||| y.natAbs : Nat) : Int)) := by
  obtain ⟨A, c, k0, k1, hm, hq⟩ := Z.open hx
  obtain ⟨B, d, j0, j1, hn, hs⟩ := Z.open hy
  have hl1 := D_len x.natAbs
  have hl2 := D_len y.natAbs
  generalize hla : (D x.natAbs).length = la at *
  generalize hlb : (D y.natAbs).length = lb at *
  have HLA := Lib.hid hla
  have HLB := Lib.hid hlb
  have HM := Lib.hid hm
  have HNN := Lib.hid hn
  have HPB := Lib.hid hp
  have hla2 : la ≤ 536870912 := by omega
  have hlb2 : lb ≤ 536870912 := by omega
  clear hla hlb
  clear hp hx hy hm hn h1 h2 hl1 hl2
  have hfin : ∀ (m : Nat) (ys : List Int) (wr : World), m = max la lb → OrTo x.natAbs y.natAbs m lb ys → wr.heap[w.heap.size]? = some (.cells (ys.map (Value.int .u32)).toArray 103 (0, 0)) → Below w.heap.size w wr →
      Calls Tryz.prog 97 #[.pointer (some ⟨p, 0, none⟩), .bool false, .slice (some ⟨w.heap.size, 0, none⟩) m m] wr (Puts w p ((x.natAbs ||| y.natAbs : Nat) : Int)) := by
    intro m ys wr hm hor hblk hb
    have hl := hor.1
    rw [← HLB.out] at hor
    obtain ⟨hd, hv⟩ := hor.done (by rw [HLA.out, HLB.out]; exact hm)
    have hr := Mg.row (xs := ys) hblk (by simp) (by omega)
    have := put (neg := false) (HPB.out.below hb) hr hd (by omega)
    rw [hl] at this
    refine this.mono fun e w' h => ?_
    rw [hv] at h
    exact Puts.below hb h
  have HF := Lib.hid hfin
  clear hfin
  by_cases hlt : la < lb
  · have hmk := run_make_row' (P := Tryz.prog) 92 103 (.int .u32 0) 4 Tryz.underlying92 infoU rfl .i64 .i64 lb (by omega) (by omega)
    have hlb : lb = max la lb := by omega
    have Hlb := Lib.hid hlb
    clear hlb
    have hlm : lb ≤ lb := Nat.le_refl _
    have HBEL := Lib.hid (show Below w.heap.size w ((w.alloc (.cells (madeCells #[Value.int .u32 0] lb) 103)).drew) from (waq w _).drew)
    have HBLK := Lib.hid (show ((w.alloc (.cells (madeCells #[Value.int .u32 0] lb) 103)).drew).heap[w.heap.size]? = some (.cells ((List.replicate lb (0 : Int)).map (Value.int .u32)).toArray 103 (0, 0)) by
      rw [show ((List.replicate lb (0 : Int)).map (Value.int .u32)).toArray = madeCells #[Value.int .u32 0] lb by rw [← made_list]]
      exact heap_alloc_new w _)
    have HLEN := Lib.hid (show ((D x.natAbs).map (Value.int .u32)).length = Nat.min la lb by rw [List.length_map, HLA.out]; exact (Nat.min_eq_left (by omega)).symm)
    have HFIT := Lib.hid (show 0 + ((D x.natAbs).map (Value.int .u32)).length ≤ ((List.replicate lb (0 : Int)).map (Value.int .u32)).length by rw [List.length_map, List.length_map, List.length_replicate, HLA.out]; omega)
    have HONE := Lib.hid (show ∀ v ∈ (D x.natAbs).map (Value.int .u32), v.oneCell' = true by intro v hv; obtain ⟨u, _, rfl⟩ := List.mem_map.1 hv; rfl)
    have HPOS := Lib.hid (show 0 < ((D x.natAbs).map (Value.int .u32)).length → ∃ ad, A = some ad ∧ ∀ j v, ((D x.natAbs).map (Value.int .u32))[j]? = some v → ((w.alloc (.cells (madeCells #[Value.int .u32 0] lb) 103)).drew).cell? (ad.add j) = some v by
      intro hpos
      rw [List.length_map] at hpos
      have hC := HM.out.1
      obtain ⟨ad, had, _⟩ := Kd.at_int hC 0 (by omega) (by omega)
      subst had
      refine ⟨ad, rfl, fun j v hj => ?_⟩
      rw [List.getElem?_map] at hj
      have hjl : j < (D x.natAbs).length := by
        rcases Nat.lt_or_ge j (D x.natAbs).length with h | h
        · exact h
        · rw [List.getElem?_eq_none h] at hj; cases hj
      obtain ⟨ad', had', hc'⟩ := Kd.at_int hC (j : Int) (by omega) (by omega)
      cases had'
      rw [Int.toNat_natCast, rdN] at hc'
      rw [List.getElem?_eq_getElem hjl, Option.map_some] at hj
      cases hj
      rw [getD_lt hjl] at hc'
      exact (HBEL.out.cell (World.block_lt_of_cell? w _ hc')).trans hc')
    go_enter Tryz.func86, Tryz.ntmps86
    go_wp2
    go_region
    clear hmk
    go_wp2_with ((with_reducible refine gate_builtin (b := .copy) (xs := #[.tmp 22, .tmp 26]) rfl ?_); refine wpList_copy_splice rfl (.tmp 22) (.tmp 26) 92 92 rfl 103 Tryz.underlying92 sizeU (some ⟨w.heap.size, 0, none⟩) A lb lb la c rfl rfl w.heap.size 0 ((List.replicate lb (0 : Int)).map (Value.int .u32)) 103 HBLK.out ((D x.natAbs).map (Value.int .u32)) HLEN.out (fun h_ => ⟨rfl, HPOS.out h_⟩) HFIT.out HONE.out w.heap.size w HBEL.out (Nat.le_refl _) ?_; clear HBLK HLEN HPOS HFIT HONE HBEL; intro w3 hblk hbel; have HB3 := Lib.hid hblk.out; have HBL := Lib.hid hbel; have j1' := (hbel.cell (p := ⟨s, 1, none⟩) hs).trans j1; clear hblk hbel)
    go_loopw [33] (fun i wr => ∃ (k : Nat) (ys : List Int), i = .int .i64 k ∧ k ≤ lb ∧ Hid (OrTo x.natAbs y.natAbs lb k ys) ∧ Hid (wr.heap[w.heap.size]? = some (.cells (ys.map (Value.int .u32)).toArray 103 (0, 0))) ∧ Hid (Below w.heap.size w wr)) (fun i _ => lb - (intOf i).toNat)
    case atStart =>
      have HMA := HM.out
      refine ⟨0, D x.natAbs ++ List.replicate (lb - (D x.natAbs).length) 0, rfl, by omega, Lib.hid ⟨by rw [List.length_append, List.length_replicate, HLA.out]; omega, fun j hj => by omega, fun j _ => append_zeros_getD _ _ _⟩, Lib.hid ?_, HBL⟩
      have := HB3.out
      rw [splice_list (by rw [HLA.out]; omega)] at this
      exact this
    case round =>
      obtain ⟨k, ys, rfl, hk, HO, HW, HBR⟩ := hrel
      by_cases hkb : k < lb
      · obtain ⟨ad, hBad, hcell⟩ := Kd.at_int HNN.out.1 (k : Int) (by omega) (by rw [HLB.out]; omega)
        subst hBad
        rw [Int.toNat_natCast, rdN] at hcell
        have hcell' := (HBR.out.cell (World.block_lt_of_cell? w _ hcell)).trans hcell
        clear hcell
        have hyl := HO.out.1
        have hrow := kcq HW.out k
        have hfro := kfq HW.out k
        have hyk : (ys.map (Value.int .u32)).toArray[k]? = some (.int .u32 ((D x.natAbs).getD k 0)) := by
          rw [List.getElem?_toArray, List.getElem?_map, List.getElem?_eq_getElem (by omega), ← HO.out.2.2 k (Nat.le_refl _), getD_lt (by omega)]; rfl
        rw [hyk] at hrow
        have HS := Lib.hid (HO.out.step (by omega))
        have hnext : ((wr.setCell ⟨w.heap.size, k, none⟩ (.int .u32 (bits .or .u32 ((D x.natAbs).getD k 0) ((D y.natAbs).getD k 0)))).heap[w.heap.size]?) = some (.cells ((ys.set k (bits .or .u32 ((D x.natAbs).getD k 0) ((D y.natAbs).getD k 0))).map (Value.int .u32)).toArray 103 (0, 0)) := by
          rw [blk_set HW.out k, nums_set]
        have HNX := Lib.hid hnext
        have HBN := Lib.hid (HBR.out.setCell (p := ⟨w.heap.size, k, none⟩) (Nat.le_refl _) (.int .u32 (bits .or .u32 ((D x.natAbs).getD k 0) ((D y.natAbs).getD k 0))))
        clear hnext hyk hyl HO HW HBR
        generalize (D x.natAbs).getD k 0 = u at *
        generalize (D y.natAbs).getD k 0 = v at *
        go_wp2
        go_roundw
        case rel => exact ⟨k + 1, _, by go_num, by omega, HS, HNX, HBN⟩
        case measure => simp [intOf]; omega
      · obtain rfl : lb = k := by omega
        have HC := Lib.hid (HF.out lb ys wr Hlb.out HO.out HW.out HBR.out)
        clear HO HW HBR
        go_wp2_with (go_at_call 97; refine HC.out.mono ?_; rintro e w2 ⟨rfl, hz2, hg2⟩; have HE := Lib.hid (show Puts w p ((x.natAbs ||| y.natAbs : Nat) : Int) _ w2 from ⟨rfl, hz2, hg2⟩); clear hz2 hg2)
        go_ret
        exact HE.out
  · have hmk := run_make_row' (P := Tryz.prog) 92 103 (.int .u32 0) 4 Tryz.underlying92 infoU rfl .i64 .i64 la (by omega) (by omega)
    have hla : la = max la lb := by omega
    have Hla := Lib.hid hla
    clear hla
    have hlm : lb ≤ la := by omega
    have HBEL := Lib.hid (show Below w.heap.size w ((w.alloc (.cells (madeCells #[Value.int .u32 0] la) 103)).drew) from (waq w _).drew)
    have HBLK := Lib.hid (show ((w.alloc (.cells (madeCells #[Value.int .u32 0] la) 103)).drew).heap[w.heap.size]? = some (.cells ((List.replicate la (0 : Int)).map (Value.int .u32)).toArray 103 (0, 0)) by
      rw [show ((List.replicate la (0 : Int)).map (Value.int .u32)).toArray = madeCells #[Value.int .u32 0] la by rw [← made_list]]
      exact heap_alloc_new w _)
    have HLEN := Lib.hid (show ((D x.natAbs).map (Value.int .u32)).length = Nat.min la la by rw [List.length_map, HLA.out]; exact (Nat.min_eq_left (by omega)).symm)
    have HFIT := Lib.hid (show 0 + ((D x.natAbs).map (Value.int .u32)).length ≤ ((List.replicate la (0 : Int)).map (Value.int .u32)).length by rw [List.length_map, List.length_map, List.length_replicate, HLA.out]; omega)
    have HONE := Lib.hid (show ∀ v ∈ (D x.natAbs).map (Value.int .u32), v.oneCell' = true by intro v hv; obtain ⟨u, _, rfl⟩ := List.mem_map.1 hv; rfl)
    have HPOS := Lib.hid (show 0 < ((D x.natAbs).map (Value.int .u32)).length → ∃ ad, A = some ad ∧ ∀ j v, ((D x.natAbs).map (Value.int .u32))[j]? = some v → ((w.alloc (.cells (madeCells #[Value.int .u32 0] la) 103)).drew).cell? (ad.add j) = some v by
      intro hpos
      rw [List.length_map] at hpos
      have hC := HM.out.1
      obtain ⟨ad, had, _⟩ := Kd.at_int hC 0 (by omega) (by omega)
      subst had
      refine ⟨ad, rfl, fun j v hj => ?_⟩
      rw [List.getElem?_map] at hj
      have hjl : j < (D x.natAbs).length := by
        rcases Nat.lt_or_ge j (D x.natAbs).length with h | h
        · exact h
        · rw [List.getElem?_eq_none h] at hj; cases hj
      obtain ⟨ad', had', hc'⟩ := Kd.at_int hC (j : Int) (by omega) (by omega)
      cases had'
      rw [Int.toNat_natCast, rdN] at hc'
      rw [List.getElem?_eq_getElem hjl, Option.map_some] at hj
      cases hj
      rw [getD_lt hjl] at hc'
      exact (HBEL.out.cell (World.block_lt_of_cell? w _ hc')).trans hc')
    go_enter Tryz.func86, Tryz.ntmps86
    go_wp2
    go_region
    clear hmk
    go_wp2_with ((with_reducible refine gate_builtin (b := .copy) (xs := #[.tmp 22, .tmp 26]) rfl ?_); refine wpList_copy_splice rfl (.tmp 22) (.tmp 26) 92 92 rfl 103 Tryz.underlying92 sizeU (some ⟨w.heap.size, 0, none⟩) A la la la c rfl rfl w.heap.size 0 ((List.replicate la (0 : Int)).map (Value.int .u32)) 103 HBLK.out ((D x.natAbs).map (Value.int .u32)) HLEN.out (fun h_ => ⟨rfl, HPOS.out h_⟩) HFIT.out HONE.out w.heap.size w HBEL.out (Nat.le_refl _) ?_; clear HBLK HLEN HPOS HFIT HONE HBEL; intro w3 hblk hbel; have HB3 := Lib.hid hblk.out; have HBL := Lib.hid hbel; have j1' := (hbel.cell (p := ⟨s, 1, none⟩) hs).trans j1; clear hblk hbel)
    go_loopw [33] (fun i wr => ∃ (k : Nat) (ys : List Int), i = .int .i64 k ∧ k ≤ lb ∧ Hid (OrTo x.natAbs y.natAbs la k ys) ∧ Hid (wr.heap[w.heap.size]? = some (.cells (ys.map (Value.int .u32)).toArray 103 (0, 0))) ∧ Hid (Below w.heap.size w wr)) (fun i _ => lb - (intOf i).toNat)
    case atStart =>
      have HMA := HM.out
      refine ⟨0, D x.natAbs ++ List.replicate (la - (D x.natAbs).length) 0, rfl, by omega, Lib.hid ⟨by rw [List.length_append, List.length_replicate, HLA.out]; omega, fun j hj => by omega, fun j _ => append_zeros_getD _ _ _⟩, Lib.hid ?_, HBL⟩
      have := HB3.out
      rw [splice_list (by rw [HLA.out]; omega)] at this
      exact this
    case round =>
      obtain ⟨k, ys, rfl, hk, HO, HW, HBR⟩ := hrel
      by_cases hkb : k < lb
      · obtain ⟨ad, hBad, hcell⟩ := Kd.at_int HNN.out.1 (k : Int) (by omega) (by rw [HLB.out]; omega)
        subst hBad
        rw [Int.toNat_natCast, rdN] at hcell
        have hcell' := (HBR.out.cell (World.block_lt_of_cell? w _ hcell)).trans hcell
        clear hcell
        have hyl := HO.out.1
        have hrow := kcq HW.out k
        have hfro := kfq HW.out k
        have hyk : (ys.map (Value.int .u32)).toArray[k]? = some (.int .u32 ((D x.natAbs).getD k 0)) := by
          rw [List.getElem?_toArray, List.getElem?_map, List.getElem?_eq_getElem (by omega), ← HO.out.2.2 k (Nat.le_refl _), getD_lt (by omega)]; rfl
        rw [hyk] at hrow
        have HS := Lib.hid (HO.out.step (by omega))
        have hnext : ((wr.setCell ⟨w.heap.size, k, none⟩ (.int .u32 (bits .or .u32 ((D x.natAbs).getD k 0) ((D y.natAbs).getD k 0)))).heap[w.heap.size]?) = some (.cells ((ys.set k (bits .or .u32 ((D x.natAbs).getD k 0) ((D y.natAbs).getD k 0))).map (Value.int .u32)).toArray 103 (0, 0)) := by
          rw [blk_set HW.out k, nums_set]
        have HNX := Lib.hid hnext
        have HBN := Lib.hid (HBR.out.setCell (p := ⟨w.heap.size, k, none⟩) (Nat.le_refl _) (.int .u32 (bits .or .u32 ((D x.natAbs).getD k 0) ((D y.natAbs).getD k 0))))
        clear hnext hyk hyl HO HW HBR
        generalize (D x.natAbs).getD k 0 = u at *
        generalize (D y.natAbs).getD k 0 = v at *
        go_wp2
        go_roundw
        case rel => exact ⟨k + 1, _, by go_num, by omega, HS, HNX, HBN⟩
        case measure => simp [intOf]; omega
      · obtain rfl : lb = k := by omega
        have HC := Lib.hid (HF.out la ys wr Hla.out HO.out HW.out HBR.out)
        clear HO HW HBR
        go_wp2_with (go_at_call 97; refine HC.out.mono ?_; rintro e w2 ⟨rfl, hz2, hg2⟩; have HE := Lib.hid (show Puts w p ((x.natAbs ||| y.natAbs : Nat) : Int) _ w2 from ⟨rfl, hz2, hg2⟩); clear hz2 hg2)
        go_ret
        exact HE.out
end Go.Proofs.YtjggbalhpflbbaaGreat.Mf
end
section
set_option linter.unusedVariables false
set_option linter.unusedSimpArgs false
namespace Go.Proofs.YtjggbalhpflbbaaGreat.Mg
open Go.RowKit Go.Proofs.YtjggbalhpflbbaaGreatW.PrintWords Go.Proofs.YtjggbalhpflbbaaGreat.PW Go.Proofs.YtjggbalhpflbbaaGreat.Pc Go.Proofs.YtjggbalhpflbbaaGreat.Ma Go.Proofs.YtjggbalhpflbbaaGreat.Mb Go.Proofs.YtjggbalhpflbbaaGreat.Mc Go.Proofs.YtjggbalhpflbbaaGreat.Md Go.Proofs.YtjggbalhpflbbaaGreat.Me Go.Proofs.YtjggbalhpflbbaaGreat.Mf Dg
def hiv (l : List Int) (k : Nat) : Int := val 16777216 (l.drop k)
theorem hiv_nonneg {l : List Int} (h : Dig 16777216 l) (k : Nat) : 0 ≤ hiv l k := val_nonneg (h.drop k)
theorem hiv_blN {l : List Int} (h : Dig 16777216 l) (N : Nat) (hl : 24 * l.length ≤ N) (k : Nat) : bl (hiv l k).natAbs ≤ N := by
  apply bl_le
  have h1 := val_lt (by decide) (h.drop k)
  have h0 := hiv_nonneg h k
  have h2 : (16777216 : Nat) ^ (l.drop k).length ≤ 2 ^ N := by
    rw [show (16777216 : Nat) = 2 ^ 24 from rfl, ← Nat.pow_mul]
    exact Nat.pow_le_pow_right (by decide) (by rw [List.length_drop]; omega)
  have h3 : ((16777216 : Nat) : Int) ^ (l.drop k).length = ((16777216 ^ (l.drop k).length : Nat) : Int) := by simp
  unfold hiv at *
  rw [h3] at h1
  exact Nat.lt_of_lt_of_le (by omega) h2
theorem hiv_bl {l : List Int} (h : Dig 16777216 l) (hl : l.length ≤ 100) (k : Nat) : bl (hiv l k).natAbs ≤ 2400 := hiv_blN h 2400 (by omega) k
theorem hiv_step {l : List Int} (h : Dig 16777216 l) (k : Nat) : hiv l k = ((((hiv l (k + 1)) * 2 ^ 24).natAbs ||| (l.getD k 0).natAbs : Nat) : Int) := by
  have h0 := hiv_nonneg h (k + 1)
  have hd := h.all0 (by decide) k
  have e : hiv l k = l.getD k 0 + 16777216 * hiv l (k + 1) := val_drop' l k
  obtain ⟨a, ha⟩ := Int.eq_ofNat_of_zero_le h0
  obtain ⟨d, hd'⟩ := Int.eq_ofNat_of_zero_le hd.1
  have hdl : d < 16777216 := by have := hd.2; omega
  rw [e, ha, hd']
  have e2 : ((a : Int) * 2 ^ 24).natAbs = 2 ^ 24 * a := by
    have : ((a : Int) * 2 ^ 24) = ((2 ^ 24 * a : Nat) : Int) := by simp [Int.mul_comm]
    rw [this, Int.natAbs_natCast]
  rw [e2, Int.natAbs_natCast, ← Nat.two_pow_add_eq_or_of_lt (i := 24) hdl a]
  omega
theorem below_grownB {w w1 w2 : World} {g : Nat} (h : Below g w w1) (hg : g ≤ w1.heap.size) (k : w1.grownBy w2 (some g)) : Below g w w2 :=
  h.trans ⟨k.os, k.tape, k.output, k.size, fun i hi => k.block i (by omega) (by simp; omega)⟩
theorem below_then0 {w w1 w2 : World} (h : Below w.heap.size w w1) (k : Below w.heap.size w1 w2) : Below w.heap.size w w2 := h.trans k
set_option maxHeartbeats 1600000 in
theorem toBig {w : World} {s : Int} {A : Option Addr} {c : Nat} {l : List Int} (hC : (Kd.int .i64).C w A l.length l) (hd : Dig 16777216 l) (hl : l.length ≤ 100) :
    Calls Tryz.prog 47 #[.agg #[.int .i64 s, .slice A l.length c]] w (News w (if s < 0 then -(val 16777216 l) else val 16777216 l)) := by
  obtain ⟨W1, hW1⟩ : ∃ W1, W1 = w.alloc (.cells #[.int .i64 s, .slice A l.length c] 28) := ⟨_, rfl⟩
  obtain ⟨W2, hW2⟩ : ∃ W2, W2 = W1.alloc (.cells #[.bool false, .slice none 0 0] 94) := ⟨_, rfl⟩
  have hs1 : W1.heap.size = w.heap.size + 1 := by rw [hW1]; simp
  have hb1 : Below w.heap.size w W1 := by rw [hW1]; exact waq w _
  have hb2 : Below W1.heap.size W1 W2 := by rw [hW2]; exact waq W1 _
  have hb02 : Below w.heap.size w W2 := below_then hb1 hb2
  have hz2 : Z W2 W1.heap.size 0 := by rw [hW2]; exact Z.new W1
  have hbox : W1.heap[w.heap.size]? = some (.cells #[.int .i64 s, .slice A l.length c] 28 (0, 0)) := by rw [hW1]; exact heap_alloc_new w _
  have hbox2 := (hb2.block w.heap.size (by omega)).trans hbox
  -- what a round knows
  have hcell : ∀ wr : World, Below (w.heap.size + 1) W2 wr → (wr.cell? ⟨w.heap.size, 0, none⟩ = some (.int .i64 s) ∧ wr.cell? ⟨w.heap.size, 1, none⟩ = some (.slice A l.length c)) := by
    intro wr h
    have := (h.block w.heap.size (by omega)).trans hbox2
    exact ⟨kcq this 0, kcq this 1⟩
  have hlimb : ∀ (wr : World) (k : Nat), k < l.length → Below (w.heap.size + 1) W2 wr → ∃ ad, A = some ad ∧ wr.cell? (ad.add k) = some (.int .i64 (l.getD k 0)) := by
    intro wr k hk h
    obtain ⟨ad, hA, hc⟩ := Kd.at_int hC (k : Int) (by omega) (by omega)
    rw [Int.toNat_natCast, rdN] at hc
    have hlt := World.block_lt_of_cell? w _ hc
    exact ⟨ad, hA, ((h.mono (by omega)).cell hlt).trans ((hb02.cell hlt).trans hc)⟩
  have hW : W2 = (w.alloc (.cells #[.int .i64 s, .slice A l.length c] 28)).alloc (.cells #[.bool false, .slice none 0 0] 94) := by rw [hW2, hW1]
  rw [hs1] at hz2
  have HW := Lib.hid hW
  have HC := Lib.hid hcell
  have HL := Lib.hid hlimb
  have H02 := Lib.hid hb02
  have HZ2 := Lib.hid hz2
  have HD := Lib.hid hd
  have HBX := Lib.hid hbox2
  clear hW hW1 hW2 hcell hlimb hb02 hz2 hbox hbox2 hb1 hb2 hs1 hC hd
  clear W1
  -- one round: shifted, a limb put in
  have hsh : ∀ (wr : World) (k : Nat), Z wr (w.heap.size + 1) (hiv l (k + 1)) → Calls Tryz.prog 73 #[.pointer (some ⟨w.heap.size + 1, 0, none⟩), .pointer (some ⟨w.heap.size + 1, 0, none⟩), .int .u64 24] wr (Puts wr (w.heap.size + 1) (hiv l (k + 1) * 2 ^ 24)) := by
    intro wr k hz
    have := hiv_bl HD.out hl (k + 1)
    exact lsh (n := 24) hz.blk hz (by omega) (by omega)
  have hor : ∀ (wr : World) (k g : Nat), Z wr (w.heap.size + 1) (hiv l (k + 1) * 2 ^ 24) → Z wr g (l.getD k 0) → Calls Tryz.prog 86 #[.pointer (some ⟨w.heap.size + 1, 0, none⟩), .pointer (some ⟨w.heap.size + 1, 0, none⟩), .pointer (some ⟨g, 0, none⟩)] wr (Puts wr (w.heap.size + 1) (hiv l k)) := by
    intro wr k g hz hg
    have h1 := hiv_bl HD.out hl (k + 1)
    have hx := HD.out.all0 (by decide) k
    have h3 : bl (hiv l (k + 1) * 2 ^ 24).natAbs ≤ 536870912 := by
      rw [Int.natAbs_mul, show ((2 : Int) ^ 24).natAbs = 2 ^ 24 from rfl]
      have := bl_shift_le (hiv l (k + 1)).natAbs 24
      omega
    have h4 : bl (l.getD k 0).natAbs ≤ 536870912 := Nat.le_trans (bl_le (k := 24) (by omega)) (by omega)
    rw [hiv_step HD.out k]
    exact orr hz.blk hz hg h3 h4
  have hnew : ∀ (wr : World) (k : Nat), Calls Tryz.prog 44 #[.int .i64 (l.getD k 0)] wr (News wr (l.getD k 0)) := by
    intro wr k
    have hx := HD.out.all0 (by decide) k
    exact newInt (by omega) (by omega)
  have hfin : ∀ wr, Z wr (w.heap.size + 1) (hiv l 0) → Calls Tryz.prog 85 #[.pointer (some ⟨w.heap.size + 1, 0, none⟩), .pointer (some ⟨w.heap.size + 1, 0, none⟩)] wr (Puts wr (w.heap.size + 1) (-(hiv l 0))) := by
    intro wr hz
    have := hiv_bl HD.out hl 0
    exact neg hz.blk hz (by omega)
  have hout : ∀ (wr : World) (z : Int), Below (w.heap.size + 1) W2 wr → Z wr (w.heap.size + 1) z → News w z (.returned (.pointer (some ⟨w.heap.size + 1, 0, none⟩))) wr := by
    intro wr z hb hz
    exact ⟨_, rfl, hz, by omega, below_then0 H02.out (hb.mono (by omega))⟩
  have HSH := Lib.hid hsh
  have HOR := Lib.hid hor
  have HNW := Lib.hid hnew
  have HFN := Lib.hid hfin
  have HOUT := Lib.hid hout
  clear hsh hor hnew hfin hout
  have hv0 : hiv l 0 = val 16777216 l := by unfold hiv; rw [List.drop_zero]
  rw [← hv0]
  clear hv0
  by_cases hneg : s < 0
  all_goals
    go_enter Tryz.func47, Tryz.ntmps47
    go_wp2_with fail
    go_loopw [4] (fun i wr => ∃ k : Nat, i = .int .i64 ((k : Int) - 1) ∧ k ≤ l.length ∧ Hid (Z wr (w.heap.size + 1) (hiv l k)) ∧ Hid (Below (w.heap.size + 1) W2 wr)) (fun i _ => (intOf i + 1).toNat)
    case atStart =>
      refine ⟨l.length, rfl, Nat.le_refl _, Lib.hid ?_, Lib.hid ?_⟩
      · rw [← HW.out, show hiv l l.length = 0 by unfold hiv; rw [List.drop_length]; rfl]; exact HZ2.out
      · rw [← HW.out]; exact Below.refl _ _
    case round =>
      obtain ⟨k, rfl, hk, HZ, HB⟩ := hrel
      cases k with
      | zero =>
        obtain ⟨c0, c1⟩ := HC.out wr HB.out
        have HO := Lib.hid (HOUT.out wr _ HB.out HZ.out)
        have HN := Lib.hid (HFN.out wr HZ.out)
        have hlt : ((0 : Nat) : Int) - 1 = -1 := rfl
        rw [hlt]
        clear hlt
        go_wp2_with (first | (go_at_call 85; refine HN.out.mono ?_; rintro e w2 ⟨rfl, hz2, hg2⟩; have HO := Lib.hid (HOUT.out w2 _ (below_grownB HB.out (Nat.le_of_lt HZ.out.lt) hg2) hz2); clear hz2 hg2))
        go_ret
        exact HO.out
      | succ k =>
        have hlt : ((k + 1 : Nat) : Int) - 1 = (k : Int) := by omega
        rw [hlt]
        clear hlt
        go_wp2_with fail
        refine (HSH.out wr k HZ.out).mono ?_
        rintro e w2 ⟨rfl, hz2, hg2⟩
        have hb2 := below_grownB HB.out (Nat.le_of_lt HZ.out.lt) hg2
        obtain ⟨c0, c1⟩ := HC.out w2 hb2
        obtain ⟨ad, hA, hl2⟩ := HL.out w2 k (by omega) hb2
        subst hA
        have HZ3 := Lib.hid hz2
        have HB3 := Lib.hid hb2
        clear hz2 hg2 hb2 HZ HB
        go_wp2_with fail
        refine (HNW.out w2 k).mono ?_
        rintro e w3 ⟨g, rfl, hz3, hg3, hb3⟩
        have HZ4 := Lib.hid (HZ3.out.below hb3)
        have HB4 := Lib.hid (HB3.out.trans (hb3.mono (by have := HZ3.out.lt; omega)))
        have HZ5 := Lib.hid hz3
        clear hz3 hg3 hb3 HZ3 HB3 c0 c1 hl2
        go_wp2_with fail
        refine (HOR.out w3 k g HZ4.out HZ5.out).mono ?_
        rintro e w4 ⟨rfl, hz6, hg6⟩
        have HZ6 := Lib.hid hz6
        have HB6 := Lib.hid (below_grownB HB4.out (Nat.le_of_lt HZ4.out.lt) hg6)
        clear hz6 hg6
        go_wp2
        go_roundw
        case rel => exact ⟨k, rfl, by omega, HZ6, HB6⟩
        case measure => (simp [intOf]) <;> omega
end Go.Proofs.YtjggbalhpflbbaaGreat.Mg
end
section
set_option linter.unusedVariables false
set_option linter.unusedSimpArgs false
namespace Go.Proofs.YtjggbalhpflbbaaGreat.Mh
open Go.RowKit Go.Proofs.YtjggbalhpflbbaaGreatW.PrintWords Go.Proofs.YtjggbalhpflbbaaGreat.PW Go.Proofs.YtjggbalhpflbbaaGreat.Pc Go.Proofs.YtjggbalhpflbbaaGreat.Pb Go.Proofs.YtjggbalhpflbbaaGreat.Pw Go.Proofs.YtjggbalhpflbbaaGreat.Ma Go.Proofs.YtjggbalhpflbbaaGreat.Mb Go.Proofs.YtjggbalhpflbbaaGreat.Mc Go.Proofs.YtjggbalhpflbbaaGreat.Md Go.Proofs.YtjggbalhpflbbaaGreat.Me Go.Proofs.YtjggbalhpflbbaaGreat.Mg Dg
theorem cBig {w : World} {s : Int} {A : Option Addr} {c : Nat} {l : List Int} (hC : (Kd.int .i64).C w A l.length l) (h : isW s l = true) :
    Calls Tryz.prog 47 #[.agg #[.int .i64 s, .slice A l.length c]] w (News w (wv s l)) := by
  obtain ⟨hd, hl, _, _⟩ := isW_spec h
  exact toBig hC hd hl
theorem C_at {w w1 : World} {A : Option Addr} {l : List Int} (hC : (Kd.int .i64).C w A l.length l) (hb : Below w.heap.size w w1) : (Kd.int .i64).C w1 A l.length l := Kd.C_below hC hb
end Go.Proofs.YtjggbalhpflbbaaGreat.Mh
end
section
set_option linter.unusedVariables false
set_option linter.unusedSimpArgs false
namespace Go.Proofs.YtjggbalhpflbbaaGreat.Mi
open Go.RowKit Go.Proofs.YtjggbalhpflbbaaGreatW.PrintWords Go.Proofs.YtjggbalhpflbbaaGreat.PW Go.Proofs.YtjggbalhpflbbaaGreat.Pc Go.Proofs.YtjggbalhpflbbaaGreat.Ma Go.Proofs.YtjggbalhpflbbaaGreat.Mb Go.Proofs.YtjggbalhpflbbaaGreat.Mc Go.Proofs.YtjggbalhpflbbaaGreat.Md Go.Proofs.YtjggbalhpflbbaaGreat.Me Dg
open Pm (sgn)
set_option maxHeartbeats 800000 in
theorem cmp {w : World} {p q : Nat} {x y : Int} (hx : Z w p x) (hy : Z w q y) (h1 : bl x.natAbs ≤ 1073741823) (h2 : bl y.natAbs ≤ 1073741823) :
    Calls Tryz.prog 77 #[.pointer (some ⟨p, 0, none⟩), .pointer (some ⟨q, 0, none⟩)] w (Tells w (.int .i64 (sgn (x - y)))) := by
  obtain ⟨A, c, k0, k1, hm, hp⟩ := Z.open hx
  obtain ⟨B, d, j0, j1, hn, hq⟩ := Z.open hy
  have hC := fun (W : World) (hb : Below w.heap.size w W) => cCmp (hm.below hb) (hn.below hb) (by omega) (by omega)
  have hD := fun (W : World) (hb : Below w.heap.size w W) => cCmp (hn.below hb) (hm.below hb) (by omega) (by omega)
  by_cases hxn : x < 0 <;> by_cases hyn : y < 0
  · have e : sgn ((y.natAbs : Int) - x.natAbs) = sgn (x - y) := by congr 1; omega
    rw [e] at hD
    rw [show decide (x < 0) = true by simpa using hxn] at k0
    rw [show decide (y < 0) = true by simpa using hyn] at j0
    have HD := Lib.hid hD
    clear hC hD e hxn hyn h1 h2 hm hn hx hy
    go_enter Tryz.func77, Tryz.ntmps77
    go_wp2
    go_quiet ((go_at_call 104; exact Calls.quiet_of (HD.out _ (below_drawn _))))
    go_wp2
    go_ret
    exact ⟨rfl, _, rfl⟩
  · have e : sgn (x - y) = -1 := by unfold sgn; rw [if_pos (by omega)]
    rw [e]
    rw [show decide (x < 0) = true by simpa using hxn] at k0
    rw [show decide (y < 0) = false by simpa using hyn] at j0
    clear hC hD e hxn hyn h1 h2 hm hn hx hy
    go_enter Tryz.func77, Tryz.ntmps77
    go_wp2
    go_ret
    exact ⟨rfl, 0, rfl⟩
  · have e : sgn (x - y) = 1 := by unfold sgn; rw [if_neg (by omega), if_neg (by omega)]
    rw [e]
    rw [show decide (x < 0) = false by simpa using hxn] at k0
    rw [show decide (y < 0) = true by simpa using hyn] at j0
    clear hC hD e hxn hyn h1 h2 hm hn hx hy
    go_enter Tryz.func77, Tryz.ntmps77
    go_wp2
    go_ret
    exact ⟨rfl, 0, rfl⟩
  · have e : sgn ((x.natAbs : Int) - y.natAbs) = sgn (x - y) := by congr 1; omega
    rw [e] at hC
    rw [show decide (x < 0) = false by simpa using hxn] at k0
    rw [show decide (y < 0) = false by simpa using hyn] at j0
    have HC := Lib.hid hC
    clear hC hD e hxn hyn h1 h2 hm hn hx hy
    go_enter Tryz.func77, Tryz.ntmps77
    go_wp2
    go_quiet ((go_at_call 104; exact Calls.quiet_of (HC.out _ (below_drawn _))))
    go_wp2
    go_ret
    exact ⟨rfl, _, rfl⟩
def sv (n : Bool) (m : Nat) : Int := if n = true then -(m : Int) else m
theorem sv_abs (z : Int) : sv (decide (z < 0)) z.natAbs = z := natAbs_if z
set_option maxHeartbeats 1600000 in
theorem plus {w : World} {p q : Nat} {x : Int} {neg : Bool} {B : Option Addr} {d m : Nat} (hp : Blk w p) (hx : Z w q x) (hn : Mg w B d (D m)) (h1 : bl x.natAbs ≤ 536870912) (h2 : bl m ≤ 536870912) :
    Calls Tryz.prog 103 #[.pointer (some ⟨p, 0, none⟩), .pointer (some ⟨q, 0, none⟩), .bool neg, .slice B (D m).length d] w (Puts w p (x + sv neg m)) := by
  obtain ⟨A, c, k0, k1, hm, hq⟩ := Z.open hx
  have hadd := bl_add_le x.natAbs m
  have hA := fun (W : World) (hb : Below w.heap.size w W) => (cAdd (hm.below hb) (hn.below hb) (by omega) (by omega)).mono fun e w' h => GivesMg.of hb h
  have hC := fun (W : World) (hb : Below w.heap.size w W) => cCmp (hm.below hb) (hn.below hb) (by omega) (by omega)
  by_cases hs : decide (x < 0) = neg
  · -- one sign
    have e : (if neg = true then -((x.natAbs + m : Nat) : Int) else ((x.natAbs + m : Nat) : Int)) = x + sv neg m := by
      rw [← sv_abs x, hs]; unfold sv
      cases neg <;> simp <;> omega
    have hP := fun (w1 : World) (A' : Option Addr) (c' : Nat) h1 h2 => put_of (w1 := w1) (A := A') (c := c') (neg := neg) (n := x.natAbs + m) hp h1 h2 (by omega)
    rw [e] at hP
    rw [hs] at k0
    have HP := Lib.hid hP
    have HA := Lib.hid hA
    clear hA hC hP e hs hadd h1 h2 hm hn hx hp
    cases neg
    all_goals
      go_enter Tryz.func103, Tryz.ntmps103
      go_wp2_with fail
      refine (HA.out _ (Below.refl _ _)).mono ?_
      rintro e w1 ⟨A', c', rfl, hm', hb'⟩
      have HPM := Lib.hid (HP.out w1 A' c' hb' hm')
      clear hm' hb'
      go_wp2_with fail
      refine HPM.out.mono ?_
      rintro e w2 ⟨rfl, hz2, hg2⟩
      have HE := Lib.hid (show Puts w p _ _ w2 from ⟨rfl, hz2, hg2⟩)
      clear hz2 hg2
      go_wp2
      go_ret
      exact HE.out
  · have hneq : neg = !decide (x < 0) := by cases neg <;> cases h : decide (x < 0) <;> simp_all
    by_cases hge : m ≤ x.natAbs
    · have hS := fun (W : World) (hb : Below w.heap.size w W) => (cSub (hm.below hb) (hn.below hb) (by omega) hge).mono fun e w' h => GivesMg.of hb h
      have hmo := bl_mono (Nat.sub_le x.natAbs m)
      have e : (if decide (x < 0) = true then -((x.natAbs - m : Nat) : Int) else ((x.natAbs - m : Nat) : Int)) = x + sv neg m := by
        rw [hneq]; unfold sv
        by_cases h : x < 0 <;> simp [h] <;> omega
      have hP := fun (w1 : World) (A' : Option Addr) (c' : Nat) h1 h2 => put_of (w1 := w1) (A := A') (c := c') (neg := decide (x < 0)) (n := x.natAbs - m) hp h1 h2 (by omega)
      rw [e] at hP
      have es : sgn ((x.natAbs : Int) - m) = sgn ((x.natAbs - m : Nat) : Int) := by congr 1; omega
      have es0 : 0 ≤ sgn ((x.natAbs : Int) - m) := by unfold sgn; split <;> (try split) <;> omega
      have HP := Lib.hid hP
      have HS := Lib.hid hS
      have HC := Lib.hid hC
      clear hA hC hP hS e hs hadd h1 h2 hm hn hx hp es hmo hge
      generalize sgn ((x.natAbs : Int) - m) = sg at *
      rw [hneq] at *
      clear hneq
      generalize decide (x < 0) = b at *
      cases b
      all_goals
        go_enter Tryz.func103, Tryz.ntmps103
        go_wp2_with fail
        refine (HC.out _ (Below.refl _ _)).mono ?_
        rintro e w1 ⟨rfl, n, rfl⟩
        go_wp2_with fail
        go_region_with (first | (go_at_call 101; refine (HS.out _ (by first | exact below_drawn _ | exact (below_drawn _).drew)).mono ?_; rintro e w1 ⟨A', c', rfl, hm', hb'⟩; have HPM := Lib.hid (HP.out w1 A' c' hb' hm'); have k0' := (hb'.cell (p := ⟨q, 0, none⟩) hq).trans k0; clear hm' hb') | (go_at_call 97; refine HPM.out.mono ?_; rintro e w2 ⟨rfl, hz2, hg2⟩; have HE := Lib.hid (show Puts w p _ _ w2 from ⟨rfl, hz2, hg2⟩); clear hz2 hg2))
        all_goals go_wp2
        all_goals go_ret
        all_goals exact HE.out
    · have hS := fun (W : World) (hb : Below w.heap.size w W) => (cSub (hn.below hb) (hm.below hb) (by omega) (by omega)).mono fun e w' h => GivesMg.of hb h
      have hmo := bl_mono (Nat.sub_le m x.natAbs)
      have e : (if neg = true then -((m - x.natAbs : Nat) : Int) else ((m - x.natAbs : Nat) : Int)) = x + sv neg m := by
        rw [hneq]; unfold sv
        by_cases h : x < 0 <;> simp [h] <;> omega
      have hP := fun (w1 : World) (A' : Option Addr) (c' : Nat) h1 h2 => put_of (w1 := w1) (A := A') (c := c') (neg := neg) (n := m - x.natAbs) hp h1 h2 (by omega)
      rw [e] at hP
      have es : sgn ((x.natAbs : Int) - m) = -1 := by unfold sgn; rw [if_pos (by omega)]
      rw [es] at hC
      have HP := Lib.hid hP
      have HS := Lib.hid hS
      have HC := Lib.hid hC
      clear hA hC hP hS e hs hadd h1 h2 hm hn hx hp es hmo hge
      rw [hneq] at *
      clear hneq
      generalize decide (x < 0) = b at *
      cases b
      all_goals
        go_enter Tryz.func103, Tryz.ntmps103
        go_wp2_with fail
        refine (HC.out _ (Below.refl _ _)).mono ?_
        rintro e w1 ⟨rfl, n, rfl⟩
        go_wp2_with fail
        refine (HS.out _ (below_drawn _)).mono ?_
        rintro e w1 ⟨A', c', rfl, hm', hb'⟩
        have HPM := Lib.hid (HP.out w1 A' c' hb' hm')
        clear hm' hb'
        go_wp2_with fail
        refine HPM.out.mono ?_
        rintro e w2 ⟨rfl, hz2, hg2⟩
        have HE := Lib.hid (show Puts w p _ _ w2 from ⟨rfl, hz2, hg2⟩)
        clear hz2 hg2
        go_wp2
        go_ret
        exact HE.out
end Go.Proofs.YtjggbalhpflbbaaGreat.Mi
end
section
set_option linter.unusedVariables false
set_option linter.unusedSimpArgs false
namespace Go.Proofs.YtjggbalhpflbbaaGreat.Mj
open Go.RowKit Go.Proofs.YtjggbalhpflbbaaGreatW.PrintWords Go.Proofs.YtjggbalhpflbbaaGreat.PW Go.Proofs.YtjggbalhpflbbaaGreat.Pc Go.Proofs.YtjggbalhpflbbaaGreat.Ma Go.Proofs.YtjggbalhpflbbaaGreat.Mb Go.Proofs.YtjggbalhpflbbaaGreat.Mc Go.Proofs.YtjggbalhpflbbaaGreat.Md Go.Proofs.YtjggbalhpflbbaaGreat.Me Go.Proofs.YtjggbalhpflbbaaGreat.Mi Dg
open Pm (sgn)
theorem Puts.of {w W w' : World} {p : Nat} {z : Int} {e : Ending} (hb : Below w.heap.size w W) (h : Puts W p z e w') : Puts w p z e w' := Mc.Puts.below hb h
set_option maxHeartbeats 1600000 in
theorem add {w : World} {p q s : Nat} {x y : Int} (hp : Blk w p) (hx : Z w q x) (hy : Z w s y) (h1 : bl x.natAbs ≤ 536870912) (h2 : bl y.natAbs ≤ 536870912) :
    Calls Tryz.prog 79 #[.pointer (some ⟨p, 0, none⟩), .pointer (some ⟨q, 0, none⟩), .pointer (some ⟨s, 0, none⟩)] w (Puts w p (x + y)) := by
  obtain ⟨B, d, j0, j1, hn, hs⟩ := Z.open hy
  have hP := fun (W : World) (hb : Below w.heap.size w W) => (plus (neg := decide (y < 0)) (hp.below hb) (hx.below hb) (hn.below hb) h1 h2).mono fun e w' h => Puts.of hb h
  rw [sv_abs] at hP
  have HP := Lib.hid hP
  clear hP hn h1 h2 hp hx hy
  generalize decide (y < 0) = b at *
  go_enter Tryz.func79, Tryz.ntmps79
  go_wp2
  go_region_with (go_at_call 103; refine (HP.out _ (by first | exact Below.refl _ _ | exact (Below.refl _ _).drew)).mono ?_; rintro e w2 ⟨rfl, hz2, hg2⟩; have HE := Lib.hid (show Puts w p (x + y) _ w2 from ⟨rfl, hz2, hg2⟩); clear hz2 hg2)
  all_goals go_wp2
  all_goals go_ret
  all_goals exact HE.out
set_option maxHeartbeats 1600000 in
theorem sub {w : World} {p q s : Nat} {x y : Int} (hp : Blk w p) (hx : Z w q x) (hy : Z w s y) (h1 : bl x.natAbs ≤ 536870912) (h2 : bl y.natAbs ≤ 536870912) :
    Calls Tryz.prog 75 #[.pointer (some ⟨p, 0, none⟩), .pointer (some ⟨q, 0, none⟩), .pointer (some ⟨s, 0, none⟩)] w (Puts w p (x - y)) := by
  obtain ⟨B, d, j0, j1, hn, hs⟩ := Z.open hy
  have hP := fun (W : World) (hb : Below w.heap.size w W) => (plus (neg := !decide (y < 0)) (hp.below hb) (hx.below hb) (hn.below hb) h1 h2).mono fun e w' h => Puts.of hb h
  rw [show sv (!decide (y < 0)) y.natAbs = -y from natAbs_neg_if y, ← Int.sub_eq_add_neg] at hP
  have HP := Lib.hid hP
  clear hP hn h1 h2 hp hx hy
  generalize decide (y < 0) = b at *
  go_enter Tryz.func75, Tryz.ntmps75
  go_wp2
  go_region_with (go_at_call 103; refine (HP.out _ (by first | exact Below.refl _ _ | exact (Below.refl _ _).drew)).mono ?_; rintro e w2 ⟨rfl, hz2, hg2⟩; have HE := Lib.hid (show Puts w p (x - y) _ w2 from ⟨rfl, hz2, hg2⟩); clear hz2 hg2)
  all_goals go_wp2
  all_goals go_ret
  all_goals exact HE.out
end Go.Proofs.YtjggbalhpflbbaaGreat.Mj
end
section
set_option linter.unusedVariables false
set_option linter.unusedSimpArgs false
namespace Go.Proofs.YtjggbalhpflbbaaGreat.Mk
open Go.RowKit Go.Proofs.YtjggbalhpflbbaaGreatW.PrintWords Go.Proofs.YtjggbalhpflbbaaGreat.PW Go.Proofs.YtjggbalhpflbbaaGreat.Pc Go.Proofs.YtjggbalhpflbbaaGreat.Ma Go.Proofs.YtjggbalhpflbbaaGreat.Mb Go.Proofs.YtjggbalhpflbbaaGreat.Mc Go.Proofs.YtjggbalhpflbbaaGreat.Md Go.Proofs.YtjggbalhpflbbaaGreat.Me Go.Proofs.YtjggbalhpflbbaaGreat.Mi Go.Proofs.YtjggbalhpflbbaaGreat.Mj Dg
open Pm (sgn)
def lw (n k : Nat) : Int := val 4294967296 (((D n).take 2).drop k)
theorem lw_zero (n : Nat) : lw n 0 = ((n % 18446744073709551616 : Nat) : Int) := by
  unfold lw
  rw [List.drop_zero]
  have := (val_div_mod (by decide) (D_dig n) 2).2
  rw [D_val] at this
  rw [← this]
  rfl
theorem lw_end (n k : Nat) (h : 2 ≤ k ∨ (D n).length ≤ k) : lw n k = 0 := by
  unfold lw
  rw [List.drop_of_length_le (by simp; omega)]
  rfl
theorem lw_bd (n k : Nat) (h : 0 < k) : 0 ≤ lw n k ∧ lw n k < 4294967296 := by
  unfold lw
  have hd := ((D_dig n).take 2).drop k
  have h1 := val_nonneg hd
  have h2 := val_lt (by decide) hd
  refine ⟨h1, ?_⟩
  have h3 : (((D n).take 2).drop k).length ≤ 1 := by simp; omega
  have h4 : ((4294967296 : Nat) : Int) ^ (((D n).take 2).drop k).length ≤ 4294967296 := by
    rcases Nat.lt_or_ge (((D n).take 2).drop k).length 1 with h | h
    · have : (((D n).take 2).drop k).length = 0 := by omega
      rw [this]; decide
    · have : (((D n).take 2).drop k).length = 1 := by omega
      rw [this]; decide
  omega
theorem lw_step (n k : Nat) (h : k < 2) (hk : k < (D n).length) : bits .or .u64 (IntKind.u64.wrap (lw n (k + 1) * 4294967296)) ((D n).getD k 0) = lw n k := by
  have hb := lw_bd n (k + 1) (by omega)
  have hd := (D_dig n).all0 (by decide) k
  have e : lw n k = (D n).getD k 0 + 4294967296 * lw n (k + 1) := by
    unfold lw
    have := val_drop' (B := 4294967296) ((D n).take 2) k
    rw [this]
    congr 1
    simp [List.getD, List.getElem?_take, h]
  rw [Pn.u64_id (by omega) (by omega), e]
  have := Po.or_high (x := (D n).getD k 0) (y := lw n (k + 1)) hd.1 (by omega) hb.1 hb.2
  rw [← this]
  obtain ⟨a, ha⟩ := Int.eq_ofNat_of_zero_le hd.1
  obtain ⟨b, hb'⟩ := Int.eq_ofNat_of_zero_le hb.1
  have hd2 : a < 4294967296 := by have := hd.2; omega
  have hb2 : b < 4294967296 := by have := hb.2; omega
  rw [ha, hb']
  have e2 : (b : Int) * 4294967296 = ((b * 4294967296 : Nat) : Int) := by simp
  have h1 : a < 2 ^ 64 := by omega
  have h2 : b * 4294967296 < 2 ^ 64 := by omega
  rw [e2, (bits_nat .u64 64 (by decide) Po.wraps_u64 _ _ h2 h1).2, (bits_nat .u64 64 (by decide) Po.wraps_u64 _ _ h1 h2).2, Nat.or_comm]
set_option maxHeartbeats 1600000 in
theorem low {w : World} {q : Nat} {z : Int} (hz : Z w q z) : Calls Tryz.prog 107 #[.pointer (some ⟨q, 0, none⟩)] w fun e w' => e = .returned (.int .u64 ((z.natAbs % 18446744073709551616 : Nat) : Int)) ∧ w = w' := by
  obtain ⟨A, c, k0, k1, hm, hq⟩ := Z.open hz
  have hres := lw_zero z.natAbs
  have hcell : ∀ k, k < (D z.natAbs).length → ∃ ad, A = some ad ∧ w.cell? (ad.add k) = some (.int .u32 ((D z.natAbs).getD k 0)) := fun k hk => by
    obtain ⟨ad, hA, hc⟩ := Kd.at_int hm.1 (k : Int) (by omega) (by omega)
    rw [Int.toNat_natCast, rdN] at hc
    exact ⟨ad, hA, hc⟩
  have hmax : (D z.natAbs).length ≤ 9223372036854775807 := hm.1.2.1
  have hst := fun k h1 h2 => lw_step z.natAbs k h1 h2
  have hen := fun k h => lw_end z.natAbs k h
  have hdd := (D_dig z.natAbs).all0 (by decide)
  have hlb := fun k h => lw_bd z.natAbs k h
  have HR := Lib.hid hres
  have HC := Lib.hid hcell
  have HS := Lib.hid hst
  have HE := Lib.hid hen
  have HD := Lib.hid hdd
  have HLB := Lib.hid hlb
  clear hres hcell hm hz hst hen hdd hlb
  generalize hln : (D z.natAbs).length = n at *
  clear hln
  obtain ⟨m, hm2, hmn, hmm⟩ : ∃ m : Nat, m ≤ 2 ∧ m ≤ n ∧ (2 ≤ m ∨ n ≤ m) := ⟨min n 2, by omega, by omega, by omega⟩
  have hst0 : lw z.natAbs m = 0 := HE.out m hmm
  have HST := Lib.hid hst0
  clear hst0
  by_cases hlt : n < 2
  · obtain rfl : n = m := by omega
    go_enter Tryz.func107, Tryz.ntmps107
    go_wp2_with fail
    go_loop [3, 4] (fun u i => ∃ k : Nat, k ≤ n ∧ i = .int .i64 ((k : Int) - 1) ∧ u = .int .u64 (lw z.natAbs k)) (fun _ i => (intOf i + 1).toNat)
    case atStart => exact ⟨n, Nat.le_refl _, rfl, by rw [HST.out]⟩
    case round =>
      obtain ⟨k, hk, rfl, rfl⟩ := hrel
      cases k with
      | zero =>
        have e : ((0 : Nat) : Int) - 1 = -1 := rfl
        rw [e]
        go_wp2
        go_ret
        exact ⟨by show Ending.returned (Value.int .u64 (lw z.natAbs 0)) = _; rw [HR.out]; simp, rfl⟩
      | succ k =>
        have e : ((k + 1 : Nat) : Int) - 1 = (k : Int) := by omega
        rw [e]
        clear e
        obtain ⟨ad, hA, hc⟩ := HC.out k (by omega)
        subst hA
        have hs := Lib.hid (HS.out k (by omega) (by omega))
        have hd := HD.out k
        have hb := HLB.out (k + 1) (by omega)
        have hx := Pn.u64_id (n := lw z.natAbs (k + 1) * 4294967296) (by omega) (by omega)
        have hs2 := hs.out
        rw [hx] at hs2
        have HS2 := Lib.hid hs2
        clear hs hs2 hx
        generalize hl1 : lw z.natAbs (k + 1) = l1 at *
        generalize hd1 : (D z.natAbs).getD k 0 = d1 at *
        clear hl1 hd1
        go_wp2
        go_round
        case rel => exact ⟨k, by omega, rfl, by rw [HS2.out]⟩
        case measure => (simp [intOf]) <;> omega
  · obtain rfl : m = 2 := by omega
    by_cases hn2 : n = 2
    · subst hn2
      go_enter Tryz.func107, Tryz.ntmps107
      go_wp2_with fail
      go_loop [3, 4] (fun u i => ∃ k : Nat, k ≤ 2 ∧ i = .int .i64 ((k : Int) - 1) ∧ u = .int .u64 (lw z.natAbs k)) (fun _ i => (intOf i + 1).toNat)
      case atStart => exact ⟨2, Nat.le_refl _, rfl, by rw [HST.out]⟩
      case round =>
        obtain ⟨k, hk, rfl, rfl⟩ := hrel
        cases k with
        | zero =>
          have e : ((0 : Nat) : Int) - 1 = -1 := rfl
          rw [e]
          go_wp2
          go_ret
          exact ⟨by show Ending.returned (Value.int .u64 (lw z.natAbs 0)) = _; rw [HR.out]; simp, rfl⟩
        | succ k =>
          have e : ((k + 1 : Nat) : Int) - 1 = (k : Int) := by omega
          rw [e]
          clear e
          obtain ⟨ad, hA, hc⟩ := HC.out k (by omega)
          subst hA
          have hs := Lib.hid (HS.out k (by omega) (by omega))
          have hd := HD.out k
          have hb := HLB.out (k + 1) (by omega)
          have hx := Pn.u64_id (n := lw z.natAbs (k + 1) * 4294967296) (by omega) (by omega)
          have hs2 := hs.out
          rw [hx] at hs2
          have HS2 := Lib.hid hs2
          clear hs hs2 hx
          generalize hl1 : lw z.natAbs (k + 1) = l1 at *
          generalize hd1 : (D z.natAbs).getD k 0 = d1 at *
          clear hl1 hd1
          go_wp2
          go_round
          case rel => exact ⟨k, by omega, rfl, by rw [HS2.out]⟩
          case measure => (simp [intOf]) <;> omega

    · have hn3 : 2 < n := by omega
      clear hlt
      go_enter Tryz.func107, Tryz.ntmps107
      go_wp2_with fail
      go_loop [3, 4] (fun u i => ∃ k : Nat, k ≤ 2 ∧ i = .int .i64 ((k : Int) - 1) ∧ u = .int .u64 (lw z.natAbs k)) (fun _ i => (intOf i + 1).toNat)
      case atStart => exact ⟨2, Nat.le_refl _, rfl, by rw [HST.out]⟩
      case round =>
        obtain ⟨k, hk, rfl, rfl⟩ := hrel
        cases k with
        | zero =>
          have e : ((0 : Nat) : Int) - 1 = -1 := rfl
          rw [e]
          go_wp2
          go_ret
          exact ⟨by show Ending.returned (Value.int .u64 (lw z.natAbs 0)) = _; rw [HR.out]; simp, rfl⟩
        | succ k =>
          have e : ((k + 1 : Nat) : Int) - 1 = (k : Int) := by omega
          rw [e]
          clear e
          obtain ⟨ad, hA, hc⟩ := HC.out k (by omega)
          subst hA
          have hs := Lib.hid (HS.out k (by omega) (by omega))
          have hd := HD.out k
          have hb := HLB.out (k + 1) (by omega)
          have hx := Pn.u64_id (n := lw z.natAbs (k + 1) * 4294967296) (by omega) (by omega)
          have hs2 := hs.out
          rw [hx] at hs2
          have HS2 := Lib.hid hs2
          clear hs hs2 hx
          generalize hl1 : lw z.natAbs (k + 1) = l1 at *
          generalize hd1 : (D z.natAbs).getD k 0 = d1 at *
          clear hl1 hd1
          go_wp2
          go_round
          case rel => exact ⟨k, by omega, rfl, by rw [HS2.out]⟩
          case measure => (simp [intOf]) <;> omega
theorem natAbs_mod {z : Int} (h0 : -9223372036854775808 ≤ z) (h1 : z ≤ 9223372036854775807) : ((z.natAbs % 18446744073709551616 : Nat) : Int) = z.natAbs := by omega
set_option maxHeartbeats 800000 in
theorem int64 {w : World} {q : Nat} {z : Int} (hz : Z w q z) (h0 : -9223372036854775808 ≤ z) (h1 : z ≤ 9223372036854775807) : Calls Tryz.prog 81 #[.pointer (some ⟨q, 0, none⟩)] w fun e w' => e = .returned (.int .i64 z) ∧ w = w' := by
  obtain ⟨A, c, k0, k1, hm, hq⟩ := Z.open hz
  have hl := low hz
  rw [natAbs_mod h0 h1] at hl
  have HL := Lib.hid hl
  clear hl hm hz
  by_cases hn : z < 0
  · have e : IntKind.i64.wrap (-(IntKind.i64.wrap (z.natAbs : Int))) = z := by rw [IntKind.wrap_i64, IntKind.wrap_i64]; omega
    have e2 : wrap64 (-(wrap64 (z.natAbs : Int))) = z := by unfold wrap64; omega
    rw [show decide (z < 0) = true by simpa using hn] at k0
    have E := Lib.hid e2
    clear e e2 h0 h1 hn
    generalize (z.natAbs : Int) = a at *
    go_enter Tryz.func81, Tryz.ntmps81
    go_wp2_with fail
    refine HL.out.mono ?_
    rintro e w1 ⟨rfl, rfl⟩
    go_wp2
    go_ret
    exact ⟨by rw [← E.out]; rfl, rfl⟩
  · have e2 : wrap64 (z.natAbs : Int) = z := by unfold wrap64; omega
    rw [show decide (z < 0) = false by simpa using hn] at k0
    have E := Lib.hid e2
    clear e2 h0 h1 hn
    generalize (z.natAbs : Int) = a at *
    go_enter Tryz.func81, Tryz.ntmps81
    go_wp2_with fail
    refine HL.out.mono ?_
    rintro e w1 ⟨rfl, rfl⟩
    go_wp2
    go_ret
    exact ⟨by rw [← E.out]; rfl, rfl⟩
theorem D_one : D 1 = [1] := by
  have := D_of (l := [1]) (Dig.cons (by decide) (by decide) Dig.nil) (by intro _ h; simp at h)
  exact this
theorem Mg_one {w : World} : Mg (w.alloc (.cells #[.int .u32 1] 103)) (some ⟨w.heap.size, 0, none⟩) 1 (D 1) := by
  rw [D_one]
  exact Mg.row (xs := [1]) (heap_alloc_new w _) rfl (by simp)
theorem shr_neg {z : Int} (hz : z < 0) (n : Nat) : -(((z.natAbs - 1) / 2 ^ n + 1 : Nat) : Int) = z / 2 ^ n := by
  obtain ⟨m, hm⟩ : ∃ m : Nat, z = Int.negSucc m := ⟨z.natAbs - 1, by omega⟩
  subst hm
  have e : ((2 : Int) ^ n) = ((2 ^ n : Nat) : Int) := by simp
  rw [Int.negSucc_ediv _ (by rw [e]; have := Nat.two_pow_pos n; omega), e]
  show -(((m + 1 - 1) / 2 ^ n + 1 : Nat) : Int) = _
  rw [Nat.add_sub_cancel]
  rfl
theorem shr_pos {z : Int} (hz : ¬ z < 0) (n : Nat) : ((z.natAbs / 2 ^ n : Nat) : Int) = z / 2 ^ n := by
  have e : ((2 : Int) ^ n) = ((2 ^ n : Nat) : Int) := by simp
  obtain ⟨m, rfl⟩ := Int.eq_ofNat_of_zero_le (show 0 ≤ z by omega)
  rw [e, Int.natAbs_natCast]
  rfl
set_option maxHeartbeats 1600000 in
theorem rsh {w : World} {p q : Nat} {z : Int} {n : Nat} (hp : Blk w p) (hz : Z w q z) (h1 : bl z.natAbs ≤ 268435456) (h2 : n ≤ 268435456) :
    Calls Tryz.prog 74 #[.pointer (some ⟨p, 0, none⟩), .pointer (some ⟨q, 0, none⟩), .int .u64 n] w (Puts w p (z / 2 ^ n)) := by
  obtain ⟨A, c, k0, k1, hm, hq⟩ := Z.open hz
  by_cases hn : z < 0
  · have b1 := bl_mono (Nat.sub_le z.natAbs 1)
    have b2 := bl_mono (Nat.div_le_self (z.natAbs - 1) (2 ^ n))
    have b3 := bl_add_le ((z.natAbs - 1) / 2 ^ n) 1
    have b4 : bl 1 = 1 := rfl
    have hS := fun (W : World) (hb : Below w.heap.size w W) => (cSub ((hm.below hb).below (waq W _)) (Mg_one (w := W)) (by omega) (by omega)).mono fun e w' h => GivesMg.of (below_then hb (waq W _)) h
    have hR := fun (W : World) (A' : Option Addr) (c' : Nat) (hb : Below w.heap.size w W) (hm' : Mg W A' c' (D (z.natAbs - 1))) => (cRight hm' (n := n) (by omega) (by omega)).mono fun e w' h => GivesMg.of hb h
    have hA := fun (W : World) (A' : Option Addr) (c' : Nat) (hb : Below w.heap.size w W) (hm' : Mg W A' c' (D ((z.natAbs - 1) / 2 ^ n))) => (cAdd (hm'.below (waq W _)) (Mg_one (w := W)) (by omega) (by omega)).mono fun e w' h => GivesMg.of (below_then hb (waq W _)) h
    have hP := fun (w1 : World) (A' : Option Addr) (c' : Nat) h1 h2 => put_of (w1 := w1) (A := A') (c := c') (neg := true) (n := (z.natAbs - 1) / 2 ^ n + 1) hp h1 h2 (by omega)
    simp only [if_true] at hP
    rw [shr_neg hn] at hP
    rw [show decide (z < 0) = true by simpa using hn] at k0
    have l1 : (D 1).length = 1 := by rw [D_one]; rfl
    rw [l1] at hS hA
    have HS := Lib.hid hS
    have HR := Lib.hid hR
    have HA := Lib.hid hA
    have HP := Lib.hid hP
    clear hS hR hA hP b1 b2 b3 b4 h1 h2 hm hp hz hn l1
    go_enter Tryz.func74, Tryz.ntmps74
    go_wp2_with fail
    refine (HS.out _ (Below.refl _ _)).mono ?_
    rintro e w1 ⟨A1, c1, rfl, hm1, hb1⟩
    have HR1 := Lib.hid (HR.out w1 A1 c1 hb1 hm1)
    clear hm1 hb1
    go_wp2_with fail
    refine HR1.out.mono ?_
    rintro e w2 ⟨A2, c2, rfl, hm2, hb2⟩
    have HA1 := Lib.hid (HA.out w2 A2 c2 hb2 hm2)
    clear hm2 hb2
    go_wp2_with fail
    refine HA1.out.mono ?_
    rintro e w3 ⟨A3, c3, rfl, hm3, hb3⟩
    have HP1 := Lib.hid (HP.out w3 A3 c3 hb3 hm3)
    clear hm3 hb3
    go_wp2_with fail
    refine HP1.out.mono ?_
    rintro e w4 ⟨rfl, hz2, hg2⟩
    have HE := Lib.hid (show Puts w p (z / 2 ^ n) _ w4 from ⟨rfl, hz2, hg2⟩)
    clear hz2 hg2
    go_wp2
    go_ret
    exact HE.out
  · have b2 := bl_mono (Nat.div_le_self z.natAbs (2 ^ n))
    have hR := fun (W : World) (hb : Below w.heap.size w W) => (cRight (hm.below hb) (n := n) (by omega) (by omega)).mono fun e w' h => GivesMg.of hb h
    have hP := fun (w1 : World) (A' : Option Addr) (c' : Nat) h1 h2 => put_of (w1 := w1) (A := A') (c := c') (neg := false) (n := z.natAbs / 2 ^ n) hp h1 h2 (by omega)
    simp only [Bool.false_eq_true, if_false] at hP
    rw [shr_pos hn] at hP
    rw [show decide (z < 0) = false by simpa using hn] at k0
    have HR := Lib.hid hR
    have HP := Lib.hid hP
    clear hR hP b2 h1 h2 hm hp hz hn
    go_enter Tryz.func74, Tryz.ntmps74
    go_wp2_with fail
    refine (HR.out _ (Below.refl _ _)).mono ?_
    rintro e w1 ⟨A1, c1, rfl, hm1, hb1⟩
    have HP1 := Lib.hid (HP.out w1 A1 c1 hb1 hm1)
    clear hm1 hb1
    go_wp2_with fail
    refine HP1.out.mono ?_
    rintro e w4 ⟨rfl, hz2, hg2⟩
    have HE := Lib.hid (show Puts w p (z / 2 ^ n) _ w4 from ⟨rfl, hz2, hg2⟩)
    clear hz2 hg2
    go_wp2
    go_ret
    exact HE.out
end Go.Proofs.YtjggbalhpflbbaaGreat.Mk
end
section
set_option linter.unusedVariables false
set_option linter.unusedSimpArgs false
namespace Go.Proofs.YtjggbalhpflbbaaGreat.Ml
open Go.RowKit Go.Proofs.YtjggbalhpflbbaaGreatW.PrintWords Go.Proofs.YtjggbalhpflbbaaGreatW.PrintLast Go.Proofs.YtjggbalhpflbbaaGreatW.PrintMore Go.Proofs.YtjggbalhpflbbaaGreat.PW Go.Proofs.YtjggbalhpflbbaaGreat.Pc Go.Proofs.YtjggbalhpflbbaaGreat.Ma Go.Proofs.YtjggbalhpflbbaaGreat.Mb Go.Proofs.YtjggbalhpflbbaaGreat.Mc Go.Proofs.YtjggbalhpflbbaaGreat.Md Go.Proofs.YtjggbalhpflbbaaGreat.Me Go.Proofs.YtjggbalhpflbbaaGreat.Mi Go.Proofs.YtjggbalhpflbbaaGreat.Mj Go.Proofs.YtjggbalhpflbbaaGreat.Mk Dg
theorem D_and (a b i : Nat) : (D (a &&& b)).getD i 0 = (((a / 4294967296 ^ i % 4294967296) &&& (b / 4294967296 ^ i % 4294967296) : Nat) : Int) := by
  rw [D_getD]
  congr 1
  rw [show (4294967296 : Nat) = 2 ^ 32 from rfl, ← Nat.pow_mul]
  have h1 : (a &&& b) / 2 ^ (32 * i) = a / 2 ^ (32 * i) &&& b / 2 ^ (32 * i) := by
    rw [← Nat.shiftRight_eq_div_pow, ← Nat.shiftRight_eq_div_pow, ← Nat.shiftRight_eq_div_pow, Nat.shiftRight_and_distrib]
  rw [h1, Nat.and_mod_two_pow]
def andl (a b k : Nat) : List Int := (List.range k).map fun j => bits .and .u32 ((D a).getD j 0) ((D b).getD j 0)
theorem andl_len (a b k : Nat) : (andl a b k).length = k := by unfold andl; simp
theorem andl_succ (a b k : Nat) : andl a b (k + 1) = andl a b k ++ [bits .and .u32 ((D a).getD k 0) ((D b).getD k 0)] := by unfold andl; rw [List.range_succ, List.map_append]; rfl
theorem and_digit (a b j : Nat) : bits .and .u32 ((D a).getD j 0) ((D b).getD j 0) = (((a &&& b) / 4294967296 ^ j % 4294967296 : Nat) : Int) := by
  rw [← D_getD, D_and, D_getD, D_getD]
  exact (bits_nat .u32 32 (by decide) Po.wraps_u32 _ _ (Nat.mod_lt _ (by decide)) (Nat.mod_lt _ (by decide))).1
theorem andl_done (a b m : Nat) (hm : (D a).length ≤ m ∨ (D b).length ≤ m) : Dig 4294967296 (andl a b m) ∧ val 4294967296 (andl a b m) = ((a &&& b : Nat) : Int) := by
  have h2 : ∀ j, j < (andl a b m).length → (andl a b m).getD j 0 = (((a &&& b) / 4294967296 ^ j % 4294967296 : Nat) : Int) := by
    intro j hj
    rw [andl_len] at hj
    rw [← and_digit]
    unfold andl
    simp [List.getD, hj]
  constructor
  · exact dig_of_getD fun j hj => by rw [h2 j hj]; have := Nat.mod_lt ((a &&& b) / 4294967296 ^ j) (show 0 < 4294967296 by decide); omega
  · rw [val_digits (by decide) _ (a &&& b) h2, andl_len]
    congr 1
    apply Nat.mod_eq_of_lt
    have e : (4294967296 : Nat) = 2 ^ 32 := rfl
    rw [e, ← Nat.pow_mul]
    rcases hm with h | h
    · refine Nat.lt_of_le_of_lt Nat.and_le_left (Nat.lt_of_lt_of_le (lt_bl a) (Nat.pow_le_pow_right (by decide) ?_))
      have := D_bl a
      omega
    · refine Nat.lt_of_le_of_lt Nat.and_le_right (Nat.lt_of_lt_of_le (lt_bl b) (Nat.pow_le_pow_right (by decide) ?_))
      have := D_bl b
      omega
set_option maxHeartbeats 1600000 in
set_option maxRecDepth 100000 in
theorem andd {w : World} {p q s : Nat} {x y : Int} (hp : Blk w p) (hx : Z w q x) (hy : Z w s y) (h1 : bl x.natAbs ≤ 536870912) (h2 : bl y.natAbs ≤ 536870912) :
    Calls Tryz.prog 89 #[.pointer (some ⟨p, 0, none⟩), .pointer (some ⟨q, 0, none⟩), .pointer (some ⟨s, 0, none⟩)] w (Puts w p ((x.natAbs &&& y.natAbs : Nat) : Int)) := by
  obtain ⟨A, c, k0, k1, hm, hq⟩ := Z.open hx
  obtain ⟨B, d, j0, j1, hn, hs⟩ := Z.open hy
  have hl1 := D_len x.natAbs
  have hl2 := D_len y.natAbs
  have hca : ∀ (k : Nat) (wr : World), k < (D x.natAbs).length → Below w.heap.size w wr → ∃ ad, A = some ad ∧ wr.cell? (ad.add k) = some (.int .u32 ((D x.natAbs).getD k 0)) := fun k wr hk hb => by
    obtain ⟨ad, hA, hc⟩ := Kd.at_int hm.1 (k : Int) (by omega) (by omega)
    rw [Int.toNat_natCast, rdN] at hc
    exact ⟨ad, hA, (hb.cell (World.block_lt_of_cell? w _ hc)).trans hc⟩
  have hcb : ∀ (k : Nat) (wr : World), k < (D y.natAbs).length → Below w.heap.size w wr → ∃ ad, B = some ad ∧ wr.cell? (ad.add k) = some (.int .u32 ((D y.natAbs).getD k 0)) := fun k wr hk hb => by
    obtain ⟨ad, hA, hc⟩ := Kd.at_int hn.1 (k : Int) (by omega) (by omega)
    rw [Int.toNat_natCast, rdN] at hc
    exact ⟨ad, hA, (hb.cell (World.block_lt_of_cell? w _ hc)).trans hc⟩
  have hcc : ∀ wr, Below w.heap.size w wr → (wr.cell? ⟨q, 1, none⟩ = some (.slice A (D x.natAbs).length c) ∧ wr.cell? ⟨s, 1, none⟩ = some (.slice B (D y.natAbs).length d)) := fun wr hb =>
    ⟨(hb.cell (p := ⟨q, 1, none⟩) hq).trans k1, (hb.cell (p := ⟨s, 1, none⟩) hs).trans j1⟩
  have hfin : ∀ (m : Nat) (v : Value) (wr : World), ((D x.natAbs).length ≤ m ∨ (D y.natAbs).length ≤ m) → m ≤ 536870912 → Kd.R (Kd.int .u32) 103 wr w.heap.size (fun _ => True) v (andl x.natAbs y.natAbs m) → Below w.heap.size w wr →
      Calls Tryz.prog 97 #[.pointer (some ⟨p, 0, none⟩), .bool false, v] wr (Puts w p ((x.natAbs &&& y.natAbs : Nat) : Int)) := by
    intro m v wr hmm hm2 hR hb
    obtain ⟨A', c', rfl⟩ := Kd.R_slice hR
    have hr := Kd.R_reads' hR
    obtain ⟨hd, hv⟩ := andl_done _ _ _ hmm
    have := put (neg := false) (hp.below hb) (xs := andl x.natAbs y.natAbs m) ⟨hr.2.2, hr.2.1⟩ hd (by rw [andl_len]; omega)
    refine this.mono fun e w' h => ?_
    rw [hv] at h
    exact Mc.Puts.below hb h
  have HF := Lib.hid hfin
  have HCA := Lib.hid hca
  have HCB := Lib.hid hcb
  have HCC := Lib.hid hcc
  clear hfin hca hcb hcc hp hx hy hm hn
  generalize hla : (D x.natAbs).length = la at *
  generalize hlb : (D y.natAbs).length = lb at *
  clear hla hlb
  obtain ⟨m, hm1, hm2, hm3⟩ : ∃ m : Nat, m ≤ la ∧ m ≤ lb ∧ (la ≤ m ∨ lb ≤ m) := ⟨min la lb, by omega, by omega, by omega⟩
  have HM3 := Lib.hid hm3
  have HB := Azq.mk (Below.refl w.heap.size w)
  have Ny0 := Azq.mk (show ([] : List Int) = andl x.natAbs y.natAbs 0 from rfl)
  have hl1' : la ≤ 536870912 := by omega
  have hl2' : lb ≤ 536870912 := by omega
  clear hl1 hl2 h1 h2
  by_cases hlt : la < lb
  · obtain rfl : la = m := by omega
    clear hm1 hm3
    go_enter Tryz.func89, Tryz.ntmps89
    go_wp2_with ((with_reducible refine gate_dst (N := 9) rfl ?_); refine Kd.R_lit (Kd.int .u32) _ 103 ?hg (N := 9) ?hd (xs := ([] : List Int)) (inner := []) (ok := fun _ => True) (okp := fun _ => True) ?hr ?hp (fun _ hk => hk) trivial (Below.refl _ _) (Nat.le_refl _) (by simp) ?_; (case hd => rfl); (case hg => rfl); (case hr => first | (go_simp; done) | (go_simp; rfl)); (case hp => exact (Reps.none _ _)); intro v168 w3 ho4 hb hg_ hnew_; clear hg_ hnew_; rw [Ny0.out] at ho4; have n0_ := Azq.mk (Kd.R_lower ho4 (Nat.le_refl _)); have n1_ := Azq.mk hb; clear HB; have HO := n0_; have HB := n1_; obtain ⟨cx, cy⟩ := HCC.out w3 hb; clear n0_ n1_; clear hb ho4)
    go_region
    go_wp2_with fail
    go_loopw [7, 21] (fun v i wr => ∃ k : Nat, i = .int .i64 k ∧ k ≤ la ∧ Azq (Kd.R (Kd.int .u32) 103 wr w.heap.size (fun _ => True) v (andl x.natAbs y.natAbs k)) ∧ Azq (Below w.heap.size w wr)) (fun _ i _ => la - (intOf i).toNat)
    case atStart => exact ⟨0, rfl, by omega, ⟨by (with_reducible repeat (first | apply Kd.R_alloc | apply Kd.R_drewN | apply Kd.R_drew)); exact HO.out⟩, ⟨HB.out.drew⟩⟩
    case round =>
      clear HO HB cx cy
      obtain ⟨k, rfl, hk, HO, HB⟩ := hrel
      obtain ⟨cx, cy⟩ := HCC.out wr HB.out
      by_cases hkm : k < la
      · obtain ⟨ad, hA, ca⟩ := HCA.out k wr (by omega) HB.out
        obtain ⟨bd, hB, cb⟩ := HCB.out k wr (by omega) HB.out
        subst hA
        subst hB
        have HS := Azq.mk (andl_succ x.natAbs y.natAbs k).symm
        have HLN := Azq.mk (show ((andl x.natAbs y.natAbs k).length + 1) * 4 ≤ 140737488355328 by rw [andl_len]; omega)
        have hka : (k : Int) < (la : Int) := by omega
        have hkb : (k : Int) < (lb : Int) := by omega
        generalize (D x.natAbs).getD k 0 = u at *
        generalize (D y.natAbs).getD k 0 = v at *
        go_wp2_with fail
        go_region_law (refine Kd.R_append_step (Kd.int .u32) (w0 := w) w.heap.size (by rfl) (.tmp 24) (.tmp 40) 92 103 (.int .u32 0) 4 rfl Tryz.underlying92 infoU rfl (by decide) (by omega) _ (andl x.natAbs y.natAbs k) (bits .and .u32 u v) [.int .u32 (bits .and .u32 u v)] (fun _ => True) (fun _ => False) rfl rfl rfl (fun _ hk => hk.elim) (fun _ _ => trivial) (Kd.R_drew HO.out) HB.out.drew HB.out.size HLN.out ?_; intro v1 w1 ho hb hg hat; rw [HS.out] at ho; have HO1 := Azq.mk ho; have HB1 := Azq.mk hb; clear ho hb hg hat HO HB)
        all_goals go_wp2
        all_goals go_roundw
        all_goals first | exact ⟨k + 1, by go_num, by omega, HO1, HB1⟩ | ((simp [intOf]) <;> omega)
      · obtain rfl : la = k := by omega
        have HC := Lib.hid (HF.out la _ wr HM3.out (by omega) HO.out HB.out)
        clear HO HB
        go_wp2_with (go_at_call 97; refine HC.out.mono ?_; rintro e w2 ⟨rfl, hz2, hg2⟩; have HE := Lib.hid (show Puts w p ((x.natAbs &&& y.natAbs : Nat) : Int) _ w2 from ⟨rfl, hz2, hg2⟩); clear hz2 hg2)
        go_ret
        exact HE.out
  · by_cases hlt2 : lb < la
    · obtain rfl : lb = m := by omega
      clear hm1 hm3
      go_enter Tryz.func89, Tryz.ntmps89
      go_wp2_with ((with_reducible refine gate_dst (N := 9) rfl ?_); refine Kd.R_lit (Kd.int .u32) _ 103 ?hg (N := 9) ?hd (xs := ([] : List Int)) (inner := []) (ok := fun _ => True) (okp := fun _ => True) ?hr ?hp (fun _ hk => hk) trivial (Below.refl _ _) (Nat.le_refl _) (by simp) ?_; (case hd => rfl); (case hg => rfl); (case hr => first | (go_simp; done) | (go_simp; rfl)); (case hp => exact (Reps.none _ _)); intro v168 w3 ho4 hb hg_ hnew_; clear hg_ hnew_; rw [Ny0.out] at ho4; have n0_ := Azq.mk (Kd.R_lower ho4 (Nat.le_refl _)); have n1_ := Azq.mk hb; clear HB; have HO := n0_; have HB := n1_; obtain ⟨cx, cy⟩ := HCC.out w3 hb; clear n0_ n1_; clear hb ho4)
      go_region
      go_wp2_with fail
      go_loopw [7, 21] (fun v i wr => ∃ k : Nat, i = .int .i64 k ∧ k ≤ lb ∧ Azq (Kd.R (Kd.int .u32) 103 wr w.heap.size (fun _ => True) v (andl x.natAbs y.natAbs k)) ∧ Azq (Below w.heap.size w wr)) (fun _ i _ => lb - (intOf i).toNat)
      case atStart => exact ⟨0, rfl, by omega, ⟨by (with_reducible repeat (first | apply Kd.R_alloc | apply Kd.R_drewN | apply Kd.R_drew)); exact HO.out⟩, ⟨HB.out.drew⟩⟩
      case round =>
        clear HO HB cx cy
        obtain ⟨k, rfl, hk, HO, HB⟩ := hrel
        obtain ⟨cx, cy⟩ := HCC.out wr HB.out
        by_cases hkm : k < lb
        · obtain ⟨ad, hA, ca⟩ := HCA.out k wr (by omega) HB.out
          obtain ⟨bd, hB, cb⟩ := HCB.out k wr (by omega) HB.out
          subst hA
          subst hB
          have HS := Azq.mk (andl_succ x.natAbs y.natAbs k).symm
          have HLN := Azq.mk (show ((andl x.natAbs y.natAbs k).length + 1) * 4 ≤ 140737488355328 by rw [andl_len]; omega)
          have hka : (k : Int) < (la : Int) := by omega
          have hkb : (k : Int) < (lb : Int) := by omega
          generalize (D x.natAbs).getD k 0 = u at *
          generalize (D y.natAbs).getD k 0 = v at *
          go_wp2_with fail
          go_region_law (refine Kd.R_append_step (Kd.int .u32) (w0 := w) w.heap.size (by rfl) (.tmp 24) (.tmp 40) 92 103 (.int .u32 0) 4 rfl Tryz.underlying92 infoU rfl (by decide) (by omega) _ (andl x.natAbs y.natAbs k) (bits .and .u32 u v) [.int .u32 (bits .and .u32 u v)] (fun _ => True) (fun _ => False) rfl rfl rfl (fun _ hk => hk.elim) (fun _ _ => trivial) (Kd.R_drew HO.out) HB.out.drew HB.out.size HLN.out ?_; intro v1 w1 ho hb hg hat; rw [HS.out] at ho; have HO1 := Azq.mk ho; have HB1 := Azq.mk hb; clear ho hb hg hat HO HB)
          all_goals go_wp2
          all_goals go_roundw
          all_goals first | exact ⟨k + 1, by go_num, by omega, HO1, HB1⟩ | ((simp [intOf]) <;> omega)
        · obtain rfl : lb = k := by omega
          have HC := Lib.hid (HF.out lb _ wr HM3.out (by omega) HO.out HB.out)
          clear HO HB
          go_wp2_with (go_at_call 97; refine HC.out.mono ?_; rintro e w2 ⟨rfl, hz2, hg2⟩; have HE := Lib.hid (show Puts w p ((x.natAbs &&& y.natAbs : Nat) : Int) _ w2 from ⟨rfl, hz2, hg2⟩); clear hz2 hg2)
          go_ret
          exact HE.out

    · obtain rfl : la = lb := by omega
      obtain rfl : la = m := by omega
      clear hm1 hm3
      go_enter Tryz.func89, Tryz.ntmps89
      go_wp2_with ((with_reducible refine gate_dst (N := 9) rfl ?_); refine Kd.R_lit (Kd.int .u32) _ 103 ?hg (N := 9) ?hd (xs := ([] : List Int)) (inner := []) (ok := fun _ => True) (okp := fun _ => True) ?hr ?hp (fun _ hk => hk) trivial (Below.refl _ _) (Nat.le_refl _) (by simp) ?_; (case hd => rfl); (case hg => rfl); (case hr => first | (go_simp; done) | (go_simp; rfl)); (case hp => exact (Reps.none _ _)); intro v168 w3 ho4 hb hg_ hnew_; clear hg_ hnew_; rw [Ny0.out] at ho4; have n0_ := Azq.mk (Kd.R_lower ho4 (Nat.le_refl _)); have n1_ := Azq.mk hb; clear HB; have HO := n0_; have HB := n1_; obtain ⟨cx, cy⟩ := HCC.out w3 hb; clear n0_ n1_; clear hb ho4)
      go_region
      go_wp2_with fail
      go_loopw [7, 21] (fun v i wr => ∃ k : Nat, i = .int .i64 k ∧ k ≤ la ∧ Azq (Kd.R (Kd.int .u32) 103 wr w.heap.size (fun _ => True) v (andl x.natAbs y.natAbs k)) ∧ Azq (Below w.heap.size w wr)) (fun _ i _ => la - (intOf i).toNat)
      case atStart => exact ⟨0, rfl, by omega, ⟨by (with_reducible repeat (first | apply Kd.R_alloc | apply Kd.R_drewN | apply Kd.R_drew)); exact HO.out⟩, ⟨HB.out.drew⟩⟩
      case round =>
        clear HO HB cx cy
        obtain ⟨k, rfl, hk, HO, HB⟩ := hrel
        obtain ⟨cx, cy⟩ := HCC.out wr HB.out
        by_cases hkm : k < la
        · obtain ⟨ad, hA, ca⟩ := HCA.out k wr (by omega) HB.out
          obtain ⟨bd, hB, cb⟩ := HCB.out k wr (by omega) HB.out
          subst hA
          subst hB
          have HS := Azq.mk (andl_succ x.natAbs y.natAbs k).symm
          have HLN := Azq.mk (show ((andl x.natAbs y.natAbs k).length + 1) * 4 ≤ 140737488355328 by rw [andl_len]; omega)
          have hka : (k : Int) < (la : Int) := by omega
          have hkb : (k : Int) < (la : Int) := by omega
          generalize (D x.natAbs).getD k 0 = u at *
          generalize (D y.natAbs).getD k 0 = v at *
          go_wp2_with fail
          go_region_law (refine Kd.R_append_step (Kd.int .u32) (w0 := w) w.heap.size (by rfl) (.tmp 24) (.tmp 40) 92 103 (.int .u32 0) 4 rfl Tryz.underlying92 infoU rfl (by decide) (by omega) _ (andl x.natAbs y.natAbs k) (bits .and .u32 u v) [.int .u32 (bits .and .u32 u v)] (fun _ => True) (fun _ => False) rfl rfl rfl (fun _ hk => hk.elim) (fun _ _ => trivial) (Kd.R_drew HO.out) HB.out.drew HB.out.size HLN.out ?_; intro v1 w1 ho hb hg hat; rw [HS.out] at ho; have HO1 := Azq.mk ho; have HB1 := Azq.mk hb; clear ho hb hg hat HO HB)
          all_goals go_wp2
          all_goals go_roundw
          all_goals first | exact ⟨k + 1, by go_num, by omega, HO1, HB1⟩ | ((simp [intOf]) <;> omega)
        · obtain rfl : la = k := by omega
          have HC := Lib.hid (HF.out la _ wr HM3.out (by omega) HO.out HB.out)
          clear HO HB
          go_wp2_with (go_at_call 97; refine HC.out.mono ?_; rintro e w2 ⟨rfl, hz2, hg2⟩; have HE := Lib.hid (show Puts w p ((x.natAbs &&& y.natAbs : Nat) : Int) _ w2 from ⟨rfl, hz2, hg2⟩); clear hz2 hg2)
          go_ret
          exact HE.out
end Go.Proofs.YtjggbalhpflbbaaGreat.Ml
end
section
set_option linter.unusedVariables false
set_option linter.unusedSimpArgs false
namespace Go.Proofs.YtjggbalhpflbbaaGreat.Mn
open Go.RowKit Go.Proofs.YtjggbalhpflbbaaGreatW.PrintWords Go.Proofs.YtjggbalhpflbbaaGreatW.PrintLast Go.Proofs.YtjggbalhpflbbaaGreatW.PrintMore Go.Proofs.YtjggbalhpflbbaaGreat.PW Go.Proofs.YtjggbalhpflbbaaGreat.Pc Go.Proofs.YtjggbalhpflbbaaGreat.Ma Go.Proofs.YtjggbalhpflbbaaGreat.Mb Go.Proofs.YtjggbalhpflbbaaGreat.Mc Go.Proofs.YtjggbalhpflbbaaGreat.Md Go.Proofs.YtjggbalhpflbbaaGreat.Me Go.Proofs.YtjggbalhpflbbaaGreat.Mi Go.Proofs.YtjggbalhpflbbaaGreat.Mj Go.Proofs.YtjggbalhpflbbaaGreat.Mk Go.Proofs.YtjggbalhpflbbaaGreat.Ml Dg
open Pm (sgn)
theorem infoI : (Tryz.prog.info? 2).map (fun i => (i.zero, i.size, i.bytes)) = some (some (.int .i64 0), 1, 8) := by kernel_rfl
theorem sizeW : (Tryz.prog.info? 28).map (·.size) = some 2 := by kernel_rfl
def GivesW (w : World) (s : Int) (l : List Int) (b : Bool) (e : Ending) (w' : World) : Prop :=
  ∃ u, e = .returned (.tuple #[.agg #[.int .i64 s, u], .bool b]) ∧ Kd.R (Kd.int .i64) 2 w' w.heap.size (fun _ => True) u l ∧ Below w.heap.size w w'
set_option maxHeartbeats 1600000 in
theorem fromBig_no {w : World} {q : Nat} {z : Int} (hz : Z w q z) (h1 : bl z.natAbs ≤ 268435456) (h2 : ¬ bl z.natAbs ≤ 2400) :
    Calls Tryz.prog 49 #[.pointer (some ⟨q, 0, none⟩)] w (GivesW w 0 [] false) := by
  have hB := Me.bitLen (hz.below (waq w (.cells #[.int .i64 0, .slice none 0 0] 28))) (by omega)
  have HB := Lib.hid hB
  have hgt : (2400 : Int) < ((bl z.natAbs : Nat) : Int) := by omega
  clear hB hz h1 h2
  generalize bl z.natAbs = b at *
  go_enter Tryz.func49, Tryz.ntmps49
  go_wp2_with fail
  refine HB.out.mono ?_
  rintro e w1 ⟨rfl, n, rfl⟩
  go_wp2
  have hbox : ((w.alloc (.cells #[.int .i64 0, .slice none 0 0] 28)).drewN n).heap[w.heap.size]? = some (.cells #[.int .i64 0, .slice none 0 0] 28 (0, 0)) := ((Me.below_drawn n).block w.heap.size (by simp)).trans (heap_alloc_new w _)
  have hb : Below w.heap.size w ((w.alloc (.cells #[.int .i64 0, .slice none 0 0] 28)).drewN n) := below_then (waq w _) (Me.below_drawn n)
  exact bodyPost_ret (results_ct rfl _ _ w.heap.size 28 #[.int .i64 0, .slice none 0 0] (0, 0) _ rfl (blk_set (blk_set hbox 0 _) 1 _) Tryz.underlying28 rfl sizeW) rfl ⟨_, rfl, Kd.R_nil _ _ _ _ _, (hb.setCell (Nat.le_refl _) _).setCell (Nat.le_refl _) _⟩
def ZF (w : World) (p : Nat) (z : Int) (v : Value) : Prop :=
  ∃ A c, w.heap[p]? = some (.cells #[.bool (decide (z < 0)), .slice A (D z.natAbs).length c] 94 (0, 0)) ∧ Mg w A c (D z.natAbs) ∧ ∀ ad, A = some ad → 0 < (D z.natAbs).length → some ad.block ≠ v.ownBlock
section
variable {w w1 : World} {p : Nat} {n : Int} {v v1 : Value}
theorem ZF.zz (h : ZF w p n v) : Z w p n := by
  obtain ⟨A, c, hb, hm, _⟩ := h
  exact ⟨A, c, hb, hm⟩
theorem ZF.of (h : Z w p n) : ZF w p n (.slice none 0 0) := by
  obtain ⟨A, c, hb, hm⟩ := h
  exact ⟨A, c, hb, hm, fun ad _ _ e => by simp [Value.ownBlock] at e⟩
theorem ZF.below (h : ZF w p n v) (hb : Below w.heap.size w w1) : ZF w1 p n v := by
  obtain ⟨A, c, h1, hm, hv⟩ := h
  exact ⟨A, c, (hb.block p (Array.getElem?_eq_some_iff.1 h1).1).trans h1, hm.below hb, hv⟩
theorem ZF.grown {q : Nat} (h : ZF w p n v) (hg : w.grownBy w1 (some q)) (hq : Blk w q) (hne : p ≠ q) : ZF w1 p n v := by
  obtain ⟨A, c, hb, hm, hv⟩ := h
  exact ⟨A, c, (hg.block p (Array.getElem?_eq_some_iff.1 hb).1 (by simpa using hne)).trans hb, hm.grown hg hq, hv⟩
theorem add_block (a : Addr) (k : Nat) : (a.add k).block = a.block := by
  unfold Addr.add
  split <;> rfl
theorem Mg.kept_at {A : Option Addr} {c : Nat} {xs : List Int} (h : Mg w A c xs) (hk : ∀ ad, A = some ad → 0 < xs.length → w1.heap[ad.block]? = w.heap[ad.block]?) : Mg w1 A c xs := by
  refine ⟨?_, h.2⟩
  obtain ⟨h1, h2, h3⟩ := h.1
  refine ⟨h1, h2, fun hn => ?_⟩
  obtain ⟨ad, hA, hc⟩ := h3 hn
  refine ⟨ad, hA, fun j p hp => ?_⟩
  obtain ⟨cs, hs, hR, hcell⟩ := hc j p hp
  refine ⟨cs, hs, hR, fun i u hu => ?_⟩
  rw [← hcell i u hu]
  exact World.cell?_of_block (w := w) (w' := w1) (a := ad.add (j * (Kd.int IntKind.u32).sz + i)) (by rw [add_block]; exact hk ad hA hn)
theorem Mg.lt {A : Option Addr} {c : Nat} {xs : List Int} (h : Mg w A c xs) (ad : Addr) (hA : A = some ad) (hn : 0 < xs.length) : ad.block < w.heap.size := by
  subst hA
  exact Kd.C_lt h.1 hn (by decide)
theorem ZF.after (h : ZF w p n v) (hpv : some p ≠ v.ownBlock) (hg : w.grownBy w1 v.ownBlock) (hat : v1.ownBlock = v.ownBlock ∨ ∃ b, v1.ownBlock = some b ∧ w.heap.size ≤ b) : ZF w1 p n v1 := by
  obtain ⟨A, c, hb, hm, hv⟩ := h
  refine ⟨A, c, (hg.block p (Array.getElem?_eq_some_iff.1 hb).1 hpv).trans hb, Mg.kept_at hm fun ad hA hn => hg.block _ (Mn.Mg.lt hm ad hA hn) (hv ad hA hn), fun ad hA hn => ?_⟩
  rcases hat with e | ⟨b, e, hle⟩
  · rw [e]; exact hv ad hA hn
  · rw [e]
    intro e2
    injection e2 with e2
    have := Mn.Mg.lt hm ad hA hn
    omega
theorem ZF.store {gw : Nat} {cs : Array Value} (h : ZF w p n v) (hw : w.heap[gw]? = some (.cells cs 28 (0, 0))) (hc : cs.size = 2) (h0 : ∀ x, cs[0]? ≠ some (.int .u32 x)) (h1 : ∀ x, cs[1]? ≠ some (.int .u32 x)) (i : Nat) (u : Value) : ZF (w.setCell ⟨gw, i, none⟩ u) p n v := by
  obtain ⟨A, c, hb, hm, hv⟩ := h
  have hne : p ≠ gw := by
    rintro rfl
    rw [hb] at hw
    injection hw with hw
    injection hw with _ hw
    exact absurd hw (by decide)
  refine ⟨A, c, (Below.heap_setCell _ _ _ _ hne).trans hb, Mg.kept_at hm fun ad hA hn => Below.heap_setCell _ _ _ _ ?_, hv⟩
  intro e
  have e : ad.block = gw := e
  obtain ⟨ad', hA', hc'⟩ := hm.1.2.2 hn
  rw [hA] at hA'
  injection hA' with hA'
  subst hA'
  obtain ⟨cs', hs, hR, hcell⟩ := hc' 0 _ (List.getElem?_eq_getElem hn)
  have hR' : cs' = [.int .u32 (D n.natAbs)[0]] := hR
  subst hR'
  have h4 := hcell 0 _ rfl
  rw [← e] at hw
  simp only [World.cell?, add_block, hw] at h4
  split at h4
  · cases h4
  · generalize (ad.add (0 * (Kd.int IntKind.u32).sz + 0)).off = o at h4
    match o, h4 with
    | 0, h4 => exact h0 _ h4
    | 1, h4 => exact h1 _ h4
    | n + 2, h4 =>
      rw [Array.getElem?_eq_none (by omega)] at h4
      cases h4
end
def GivesMgF (N : Nat) (w : World) (n : Nat) (e : Ending) (w' : World) : Prop :=
  ∃ A c, e = .returned (.slice A (D n).length c) ∧ Mg w' A c (D n) ∧ (∀ ad, A = some ad → 0 < (D n).length → N ≤ ad.block) ∧ Below w.heap.size w w'
def PutsF (N : Nat) (w : World) (p : Nat) (z : Int) (e : Ending) (w' : World) : Prop :=
  Puts w p z e w' ∧ ∀ A n c, w'.cell? ⟨p, 1, none⟩ = some (.slice A n c) → ∀ ad, A = some ad → 0 < n → N ≤ ad.block
theorem fresh_of {w w' : World} {N : Nat} {e : Ending} {v : Value} {n : Nat} {b : Nat} {t : Nat} (he : e = .returned v) (h : Kd.V (Kd.int .u32) t w' b (fun k => N ≤ k) v (D n)) (hb : Below w.heap.size w w') : GivesMgF N w n e w' := by
  obtain ⟨A, c, rfl, hm⟩ := Mg.of_V h
  exact ⟨A, c, he, hm, fun ad hA hn => Kd.F_in (Kd.V_F h) hA hn (by decide), hb⟩
theorem V_of_fresh {w : World} {N : Nat} {A : Option Addr} {c : Nat} {xs : List Int} (h : Mg w A c xs) (hA : ∀ ad, A = some ad → 0 < xs.length → N ≤ ad.block) : Kd.V (Kd.int .u32) 103 w w.heap.size (fun k => N ≤ k) (.slice A xs.length c) xs := by
  refine Kd.V_mk h.2 ?_
  intro W' hW
  exact (Mn.Mg.kept_at (w1 := W') h fun ad hA' hn => hW _ (hA ad hA' hn) (Mn.Mg.lt h ad hA' hn)).1
theorem cRightF {w : World} {A : Option Addr} {c a n : Nat} (ha : Mg w A c (D a)) (h1 : bl a ≤ 536870912) (h2 : n ≤ 536870912) :
    Calls Tryz.prog 100 #[.slice A (D a).length c, .int .u64 n] w (GivesMgF w.heap.size w (a / 2 ^ n)) := by
  obtain ⟨k, hk⟩ := (Po.right a n h1 h2).rounds
  refine (impl_magRight.calls k A c _ _ _ w ha.1 ha.2 hk).mono ?_
  rintro e w' ⟨v, he, hv, hbl⟩
  exact fresh_of he hv hbl
theorem cTrimF {w : World} {N : Nat} {A : Option Addr} {c n : Nat} (h : Mg w A c (D n)) (hA : ∀ ad, A = some ad → 0 < (D n).length → N ≤ ad.block) (hN : N ≤ w.heap.size) (hl : bl n ≤ 1099511627776) :
    Calls Tryz.prog 109 #[.slice A (D n).length c] w (GivesMgF N w n) := by
  have hl2 := D_len n
  obtain ⟨k, hk⟩ := (Pm.trim _ (D n) rfl (D_dig n) (by omega)).rounds
  rw [D_val, Int.toNat_natCast] at hk
  refine (impl_magTrim.calls k (fun k => N ≤ k) A c (D n) _ w (V_of_fresh h hA) hk).mono ?_
  rintro e w' ⟨v, he, hv, hb⟩
  exact fresh_of he (Kd.V_mono hv (fun k hk => hk.elim id (fun h => Nat.le_trans hN h))) hb
set_option maxHeartbeats 400000 in
theorem putF {w W : World} {p n N : Nat} {A : Option Addr} {c : Nat} (hp : Blk w p) (hb : Below w.heap.size w W) (hN : N ≤ w.heap.size) (hm : Mg W A c (D n)) (hA : ∀ ad, A = some ad → 0 < (D n).length → N ≤ ad.block) (hl : bl n ≤ 1099511627776) :
    Calls Tryz.prog 97 #[.pointer (some ⟨p, 0, none⟩), .bool false, .slice A (D n).length c] W (PutsF N w p (n : Int)) := by
  have hT := cTrimF hm hA (Nat.le_trans hN hb.size) hl
  obtain ⟨b, B, m, d, hbx⟩ := hp
  have hlt : p < w.heap.size := (Array.getElem?_eq_some_iff.1 hbx).1
  have HB := Lib.hid hbx
  have HT := Lib.hid hT
  have HBW := Lib.hid hb
  clear hT hbx hm hA hl hb
  have hE : ∀ w1 : World, Below w.heap.size w w1 → (w1.cell? ⟨p, 0, none⟩ = some (.bool b) ∧ w1.cell? ⟨p, 1, none⟩ = some (.slice B m d) ∧ w1.frozen? ⟨p, 0, none⟩ = false ∧ w1.frozen? ⟨p, 1, none⟩ = false) := fun w1 h => by
    have h1 := (h.block p hlt).trans HB.out
    exact ⟨kcq h1 0, kcq h1 1, kfq h1 0, kfq h1 1⟩
  have HE := Lib.hid hE
  clear hE
  have hgoal : ∀ (w1 : World) (A' : Option Addr) (c' : Nat), Below w.heap.size w w1 → Mg w1 A' c' (D n) → (∀ ad, A' = some ad → 0 < (D n).length → N ≤ ad.block) → PutsF N w p (n : Int) (.returned (.pointer (some ⟨p, 0, none⟩))) ((w1.setCell ⟨p, 1, none⟩ (.slice A' (D n).length c')).setCell ⟨p, 0, none⟩ (.bool false)) := by
    intro w1 A' c' hbl hmg hA'
    have h1 := puts_of (z := (n : Int)) (A := A') (c := c') (neg := false) HB.out hbl (by simpa using hmg) (by simp)
    refine ⟨h1, ?_⟩
    have h2 := blk_set (blk_set ((hbl.block p hlt).trans HB.out) 1 (.slice A' (D n).length c')) 0 (.bool false)
    have h3 := kcq h2 1
    intro A2 n2 c2 he ad hA2 hn
    rw [h3] at he
    injection he with he
    simp at he
    obtain ⟨rfl, rfl, rfl⟩ := he
    exact hA' ad hA2 hn
  have HG := Lib.hid hgoal
  clear hgoal
  go_enter Tryz.func97, Tryz.ntmps97
  go_wp2_with fail
  refine HT.out.mono ?_
  rintro e w1 ⟨A', c', rfl, hmg, hA', hbl⟩
  obtain ⟨k0, k1, f0, f1⟩ := HE.out w1 (below_then HBW.out hbl)
  have h2 := Lib.hid (HG.out w1 A' c' (below_then HBW.out hbl) hmg hA')
  clear hmg hbl hA' HB HBW
  go_wp2
  go_ret
  exact h2.out
set_option maxHeartbeats 800000 in
theorem rshF {w : World} {p m n : Nat} (hz : Z w p (m : Int)) (h1 : bl m ≤ 268435456) (h2 : n ≤ 268435456) :
    Calls Tryz.prog 74 #[.pointer (some ⟨p, 0, none⟩), .pointer (some ⟨p, 0, none⟩), .int .u64 n] w (PutsF w.heap.size w p ((m / 2 ^ n : Nat) : Int)) := by
  have hp := hz.blk
  obtain ⟨A, c, k0, k1, hm, hq⟩ := Z.open hz
  rw [Int.natAbs_natCast] at k1 hm
  rw [show decide ((m : Int) < 0) = false by simp] at k0
  have b2 := bl_mono (Nat.div_le_self m (2 ^ n))
  have hR := cRightF hm (n := n) (by omega) (by omega)
  have hP := fun (w1 : World) (A' : Option Addr) (c' : Nat) h1 h2 h3 => putF (W := w1) (A := A') (c := c') (n := m / 2 ^ n) hp h1 (Nat.le_refl _) h2 h3 (by omega)
  have HR := Lib.hid hR
  have HP := Lib.hid hP
  clear hR hP b2 h1 h2 hm hp hz
  go_enter Tryz.func74, Tryz.ntmps74
  go_wp2_with fail
  refine HR.out.mono ?_
  rintro e w1 ⟨A1, c1, rfl, hm1, hA1, hb1⟩
  have HP1 := Lib.hid (HP.out w1 A1 c1 hb1 hm1 hA1)
  clear hm1 hb1 hA1
  go_wp2_with fail
  refine HP1.out.mono ?_
  rintro e w4 hz2
  have HE := Lib.hid hz2
  obtain ⟨⟨rfl, hz3, hg3⟩, h4⟩ := hz2
  clear hz3 hg3 h4
  go_wp2
  go_ret
  exact HE.out
def St (w wr : World) (gw gr gm : Nat) (s : Int) (m k : Nat) (v : Value) (pre : List Int) : Prop :=
  wr.heap[gw]? = some (.cells #[.int .i64 s, v] 28 (0, 0)) ∧ Kd.R (Kd.int .i64) 2 wr w.heap.size (fun _ => True) v pre ∧ ZF wr gr (k : Int) v ∧ ZF wr gm 16777215 v ∧ Below w.heap.size w wr ∧ pre ++ L k = L m
section
variable {w wr w1 : World} {gw gr gm m k : Nat} {s : Int} {v v1 : Value} {pre : List Int}
theorem St.cell (h : St w wr gw gr gm s m k v pre) : wr.cell? ⟨gw, 1, none⟩ = some v := kcq h.1 1
theorem St.lt (h : St w wr gw gr gm s m k v pre) : gw < wr.heap.size := by
  have := h.1
  rw [Array.getElem?_eq_some_iff] at this
  exact this.1
theorem St.below (h : St w wr gw gr gm s m k v pre) (hb : Below wr.heap.size wr w1) : St w w1 gw gr gm s m k v pre :=
  ⟨(hb.block gw h.lt).trans h.1, Kd.R_below h.2.1 hb, h.2.2.1.below hb, h.2.2.2.1.below hb, below_then h.2.2.2.2.1 hb, h.2.2.2.2.2⟩
theorem ne_types {g p : Nat} {cs : Array Value} {t : TypeId} (h : wr.heap[g]? = some (.cells cs t (0, 0))) (hp : Blk wr p) (ht : t ≠ 94) : g ≠ p := by
  rintro rfl
  obtain ⟨b, A, n, c, hc⟩ := hp
  rw [h] at hc
  injection hc with hc
  injection hc with _ hc
  exact ht hc
theorem St.other {p : Nat} (h : St w wr gw gr gm s m k v pre) (hp : Blk wr p) (h1 : gr ≠ p) (h2 : gm ≠ p) (hN : w.heap.size ≤ p) (hg : wr.grownBy w1 (some p)) : St w w1 gw gr gm s m k v pre := by
  refine ⟨(hg.block gw h.lt (by have := ne_types h.1 hp (by decide); simpa using this)).trans h.1, ?_, h.2.2.1.grown hg hp h1, h.2.2.2.1.grown hg hp h2, below_grown h.2.2.2.2.1 hg hN, h.2.2.2.2.2⟩
  obtain ⟨b, A, n, c, hc⟩ := hp
  exact Kd.R_mono (Kd.R_grown (Kd.R_types h.2.1 hc (by decide)) hg (fun k hk => by have := hk.2; simpa using this)) (fun _ hk => hk.1)
theorem St.rest {k' : Nat} {e : Ending} (h : St w wr gw gr gm s m k v pre) (hp : PutsF wr.heap.size wr gr (k' : Int) e w1) (hne : gm ≠ gr) (hgr : w.heap.size ≤ gr) (he : pre ++ L k' = L m) : St w w1 gw gr gm s m k' v pre := by
  obtain ⟨⟨_, hz, hg⟩, hf⟩ := hp
  have hb := h.2.2.1.zz.blk
  refine ⟨(hg.block gw h.lt (by have := ne_types h.1 hb (by decide); simpa using this)).trans h.1, ?_, ?_, h.2.2.2.1.grown hg hb hne, below_grown h.2.2.2.2.1 hg hgr, he⟩
  · obtain ⟨b, A, n, c, hc⟩ := hb
    exact Kd.R_mono (Kd.R_grown (Kd.R_types h.2.1 hc (by decide)) hg (fun k hk => by have := hk.2; simpa using this)) (fun _ hk => hk.1)
  · obtain ⟨A, c, hzb, hm⟩ := hz
    refine ⟨A, c, hzb, hm, fun ad hA hn ho => ?_⟩
    have h1 := hf _ _ _ (kcq hzb 1) ad hA hn
    have h2 := Kd.R_lt h.2.1 _ ho.symm
    omega
theorem St.put {wr1 : World} {p : Int} {k' : Nat} (h : St w wr gw gr gm s m k v pre) (ho : Kd.R (Kd.int .i64) 2 wr1 w.heap.size (fun _ => True) v1 (pre ++ [p])) (hg : wr.grownBy wr1 v.ownBlock) (hat : v1.ownBlock = v.ownBlock ∨ ∃ b, v1.ownBlock = some b ∧ wr.heap.size ≤ b) (hb : Below w.heap.size w wr1) (hgw : w.heap.size ≤ gw) :
    wr1.frozen? ⟨gw, 1, none⟩ = false ∧ (wr1.setCell ⟨gw, 1, none⟩ v1).heap[gw]? = some (.cells #[.int .i64 s, v1] 28 (0, 0)) ∧ Kd.R (Kd.int .i64) 2 (wr1.setCell ⟨gw, 1, none⟩ v1) w.heap.size (fun _ => True) v1 (pre ++ [p]) ∧ ZF (wr1.setCell ⟨gw, 1, none⟩ v1) gr (k : Int) v1 ∧ ZF (wr1.setCell ⟨gw, 1, none⟩ v1) gm 16777215 v1 ∧ Below w.heap.size w (wr1.setCell ⟨gw, 1, none⟩ v1) := by
  have hgw1 : wr1.heap[gw]? = some (.cells #[.int .i64 s, v] 28 (0, 0)) := (hg.block gw h.lt (Kd.R_ne h.2.1 h.1 (by decide))).trans h.1
  obtain ⟨A, c, hv⟩ := Kd.R_slice h.2.1
  refine ⟨kfq hgw1 1, blk_set hgw1 1 v1, Kd.R_set ho hgw1 (by decide) 1 v1, ?_, ?_, hb.setCell hgw _⟩
  · obtain ⟨b, B, n, d, hc⟩ := h.2.2.1.zz.blk
    exact (h.2.2.1.after (Kd.R_ne h.2.1 hc (by decide)) hg hat).store hgw1 rfl (by simp) (by subst hv; simp) 1 v1
  · obtain ⟨b, B, n, d, hc⟩ := h.2.2.2.1.zz.blk
    exact (h.2.2.2.1.after (Kd.R_ne h.2.1 hc (by decide)) hg hat).store hgw1 rfl (by simp) (by subst hv; simp) 1 v1
def Sr (w wr : World) (gw gr gm : Nat) (s : Int) (m k : Nat) (v : Value) (pre : List Int) : Prop :=
  St w wr gw gr gm s m k v pre ∧ wr.heap[w.heap.size]? = some (.cells #[.int .i64 0, .slice none 0 0] 28 (0, 0))
theorem Sr.lt (h : Sr w wr gw gr gm s m k v pre) : w.heap.size < wr.heap.size := (Array.getElem?_eq_some_iff.1 h.2).1
theorem Sr.below (h : Sr w wr gw gr gm s m k v pre) (hb : Below wr.heap.size wr w1) : Sr w w1 gw gr gm s m k v pre :=
  ⟨h.1.below hb, (hb.block _ h.lt).trans h.2⟩
theorem Sr.other {p : Nat} (h : Sr w wr gw gr gm s m k v pre) (hp : Blk wr p) (h1 : gr ≠ p) (h2 : gm ≠ p) (hN : w.heap.size < p) (hg : wr.grownBy w1 (some p)) : Sr w w1 gw gr gm s m k v pre :=
  ⟨h.1.other hp h1 h2 (by omega) hg, (hg.block _ h.lt (by simp; omega)).trans h.2⟩
theorem Sr.rest {k' : Nat} {e : Ending} (h : Sr w wr gw gr gm s m k v pre) (hp : PutsF wr.heap.size wr gr (k' : Int) e w1) (hne : gm ≠ gr) (hgr : w.heap.size < gr) (he : pre ++ L k' = L m) : Sr w w1 gw gr gm s m k' v pre :=
  ⟨h.1.rest hp hne (by omega) he, (hp.1.2.2.block _ h.lt (by simp; omega)).trans h.2⟩
def Sm (w wr : World) (gw gr gm : Nat) (s : Int) (k : Nat) (v : Value) (pre : List Int) : Prop :=
  wr.heap[gw]? = some (.cells #[.int .i64 s, v] 28 (0, 0)) ∧ Kd.R (Kd.int .i64) 2 wr w.heap.size (fun _ => True) v pre ∧ ZF wr gr (k : Int) v ∧ ZF wr gm 16777215 v ∧ Below w.heap.size w wr ∧ wr.heap[w.heap.size]? = some (.cells #[.int .i64 0, .slice none 0 0] 28 (0, 0))
theorem Sr.put {wr1 : World} {p : Int} (h : Sr w wr gw gr gm s m k v pre) (ho : Kd.R (Kd.int .i64) 2 wr1 w.heap.size (fun _ => True) v1 (pre ++ [p])) (hg : wr.grownBy wr1 v.ownBlock) (hat : v1.ownBlock = v.ownBlock ∨ ∃ b, v1.ownBlock = some b ∧ wr.heap.size ≤ b) (hb : Below w.heap.size w wr1) (hgw : w.heap.size < gw) :
    wr1.frozen? ⟨gw, 1, none⟩ = false ∧ (∃ u, wr1.cell? ⟨gw, 1, none⟩ = some u) ∧ Sm w (wr1.setCell ⟨gw, 1, none⟩ v1) gw gr gm s k v1 (pre ++ [p]) := by
  obtain ⟨h1, h2, h3, h4, h5, h6⟩ := h.1.put (k' := 0) ho hg hat hb (by omega)
  refine ⟨h1, ?_, h2, h3, h4, h5, h6, ?_⟩
  · have hgw1 : wr1.heap[gw]? = some (.cells #[.int .i64 s, v] 28 (0, 0)) := (hg.block gw h.1.lt (Kd.R_ne h.1.2.1 h.1.1 (by decide))).trans h.1.1
    exact ⟨_, kcq hgw1 1⟩
  · refine (Below.heap_setCell _ _ _ _ (by show w.heap.size ≠ gw; omega)).trans ?_
    exact (hg.block _ h.lt (Kd.R_ne h.1.2.1 h.2 (by decide))).trans h.2
theorem Sm.rest {k' : Nat} {e : Ending} (h : Sm w wr gw gr gm s k v pre) (hp : PutsF wr.heap.size wr gr (k' : Int) e w1) (hne : gm ≠ gr) (hgr : w.heap.size < gr) (he : pre ++ L k' = L m) : Sr w w1 gw gr gm s m k' v pre := by
  obtain ⟨h2, h3, h4, h5, h6, h7⟩ := h
  have hlt : w.heap.size < wr.heap.size := (Array.getElem?_eq_some_iff.1 h7).1
  have hltg : gw < wr.heap.size := (Array.getElem?_eq_some_iff.1 h2).1
  obtain ⟨⟨_, hz, hg⟩, hf⟩ := hp
  have hb := h4.zz.blk
  refine ⟨⟨(hg.block gw hltg (by have := ne_types h2 hb (by decide); simpa using this)).trans h2, ?_, ?_, h5.grown hg hb hne, below_grown h6 hg (by omega), he⟩, (hg.block _ hlt (by simp; omega)).trans h7⟩
  · obtain ⟨b, A, n, c, hc⟩ := hb
    exact Kd.R_mono (Kd.R_grown (Kd.R_types h3 hc (by decide)) hg (fun k hk => by have := hk.2; simpa using this)) (fun _ hk => hk.1)
  · obtain ⟨A, c, hzb, hm⟩ := hz
    refine ⟨A, c, hzb, hm, fun ad hA hn ho => ?_⟩
    have h1 := hf _ _ _ (kcq hzb 1) ad hA hn
    have h2 := Kd.R_lt h3 _ ho.symm
    omega
end
end Go.Proofs.YtjggbalhpflbbaaGreat.Mn
end
section
set_option linter.unusedVariables false
set_option linter.unusedSimpArgs false
namespace Go.Proofs.YtjggbalhpflbbaaGreat.Mo
open Go.RowKit Go.Proofs.YtjggbalhpflbbaaGreatW.PrintWords Go.Proofs.YtjggbalhpflbbaaGreatW.PrintLast Go.Proofs.YtjggbalhpflbbaaGreatW.PrintMore Go.Proofs.YtjggbalhpflbbaaGreat.PW Go.Proofs.YtjggbalhpflbbaaGreat.Pc Go.Proofs.YtjggbalhpflbbaaGreat.Ma Go.Proofs.YtjggbalhpflbbaaGreat.Mb Go.Proofs.YtjggbalhpflbbaaGreat.Mc Go.Proofs.YtjggbalhpflbbaaGreat.Md Go.Proofs.YtjggbalhpflbbaaGreat.Me Go.Proofs.YtjggbalhpflbbaaGreat.Mi Go.Proofs.YtjggbalhpflbbaaGreat.Mj Go.Proofs.YtjggbalhpflbbaaGreat.Mk Go.Proofs.YtjggbalhpflbbaaGreat.Ml Go.Proofs.YtjggbalhpflbbaaGreat.Mn Dg
open Pm (sgn)
theorem L_next {k : Nat} (h : k ≠ 0) : L k = ((k % 16777216 : Nat) : Int) :: L (k / 16777216) := dg_pos _ h
theorem and_mask (k : Nat) : (((k : Int).natAbs &&& (16777215 : Int).natAbs : Nat) : Int) = ((k % 16777216 : Nat) : Int) := by
  have := Nat.and_two_pow_sub_one_eq_mod k 24
  rw [Int.natAbs_natCast, ← this]
  rfl
set_option maxHeartbeats 1600000 in
theorem fromBig_yes {w : World} {q : Nat} {z : Int} (hz : Z w q z) (h1 : bl z.natAbs ≤ 2400) :
    Calls Tryz.prog 49 #[.pointer (some ⟨q, 0, none⟩)] w (GivesW w (sgn z) (L z.natAbs) true) := by
  have hB := Me.bitLen (hz.below (waq w (.cells #[.int .i64 0, .slice none 0 0] 28))) (by omega)
  have HB := Lib.hid hB
  have hgt : ((bl z.natAbs : Nat) : Int) ≤ 2400 := by omega
  clear hB
  have HZ := Lib.hid hz
  have HL := Lib.hid h1
  clear hz h1
  generalize bl z.natAbs = b at hgt HB
  go_enter Tryz.func49, Tryz.ntmps49
  go_wp2_with fail
  refine HB.out.mono ?_
  rintro e w1 ⟨rfl, n, rfl⟩
  have hb0 : Below w.heap.size w ((w.alloc (.cells #[.int .i64 0, .slice none 0 0] 28)).drewN n) := below_then (waq w _) (Me.below_drawn n)
  have hS := Me.sign (HZ.out.below hb0)
  have hbx : ((w.alloc (.cells #[.int .i64 0, .slice none 0 0] 28)).drewN n).heap[w.heap.size]? = some (.cells #[.int .i64 0, .slice none 0 0] 28 (0, 0)) := ((Me.below_drawn n).block w.heap.size (by simp)).trans (heap_alloc_new w _)
  have hsz : ((w.alloc (.cells #[.int .i64 0, .slice none 0 0] 28)).drewN n).heap.size = w.heap.size + 1 := by show (w.alloc _).heap.size = _; simp
  have HS := Lib.hid hS
  have HB0 := Lib.hid hb0
  have HBX := Lib.hid hbx
  have HSZ := Lib.hid hsz
  clear hS hb0 hbx hsz
  generalize hW0 : (w.alloc (.cells #[.int .i64 0, .slice none 0 0] 28)).drewN n = W0 at *
  clear hW0
  go_wp2_with fail
  refine HS.out.mono ?_
  rintro e w2 ⟨rfl, rfl⟩
  -- the integers that are made
  have hz2 := HZ.out.below (below_then (below_then HB0.out (Ma.waq W0 (.cells #[.int .i64 (sgn z), .slice none 0 0] 28))) (Ma.waq _ (.cells #[.bool false, .slice none 0 0] 94)))
  have hp2 : Blk ((W0.alloc (.cells #[.int .i64 (sgn z), .slice none 0 0] 28)).alloc (.cells #[.bool false, .slice none 0 0] 94)) (W0.heap.size + 1) := by
    have := (Z.new (W0.alloc (.cells #[.int .i64 (sgn z), .slice none 0 0] 28))).blk
    simpa using this
  have hA := Me.abs hp2 hz2 (by have := HL.out; omega)
  have HA := Lib.hid hA
  have HP2 := Lib.hid hp2
  clear hA hz2 hp2
  go_wp2_with fail
  refine HA.out.mono ?_
  rintro e w3 ⟨rfl, hz3, hg3⟩
  have HZ3 := Lib.hid hz3
  have HG3 := Lib.hid hg3
  have hn3 := newInt (w := w3) (n := 16777215) (by decide) (by decide)
  have HN3 := Lib.hid hn3
  clear hz3 hg3 hn3
  go_wp2_with fail
  refine HN3.out.mono ?_
  rintro e w4 ⟨gm, rfl, hz4, hgm, hb4⟩
  have hst : Sr w w4 W0.heap.size (W0.heap.size + 1) gm (sgn z) z.natAbs z.natAbs (.slice none 0 0) [] := by
    have hA1 : Below W0.heap.size W0 ((W0.alloc (.cells #[.int .i64 (sgn z), .slice none 0 0] 28)).alloc (.cells #[.bool false, .slice none 0 0] 94)) := below_then (Ma.waq W0 _) (Ma.waq _ _)
    have hA2 : Below W0.heap.size W0 w3 := below_grown hA1 HG3.out (by omega)
    have hs3 := HG3.out.size
    simp at hs3
    have hcell : ((W0.alloc (.cells #[.int .i64 (sgn z), .slice none 0 0] 28)).alloc (.cells #[.bool false, .slice none 0 0] 94)).heap[W0.heap.size]? = some (.cells #[.int .i64 (sgn z), .slice none 0 0] 28 (0, 0)) := ((Ma.waq _ _).block _ (by simp)).trans (heap_alloc_new W0 _)
    have hcell3 := (HG3.out.block W0.heap.size (by simp; omega) (by simp)).trans hcell
    have hcell4 := (hb4.block W0.heap.size (by omega)).trans hcell3
    have h0 : w.heap.size < W0.heap.size := by have := HSZ.out; omega
    refine ⟨⟨hcell4, Kd.R_nil _ _ _ _ _, ZF.of (HZ3.out.below hb4), ZF.of hz4, below_then (below_then HB0.out hA2) hb4, rfl⟩, ?_⟩
    exact (hb4.block _ (by omega)).trans ((hA2.block _ h0).trans HBX.out)
  have hne : gm ≠ W0.heap.size + 1 := by have := HZ3.out.lt; omega
  have hlim : (L z.natAbs).length ≤ 100 := (L_len_iff _ _).2 (by have := HL.out; omega)
  have HST := Lib.hid hst
  have HNE := Lib.hid hne
  have HLIM := Lib.hid hlim
  have hsz2 : w.heap.size < W0.heap.size := by have := HSZ.out; omega
  have HSZ2 := Lib.hid hsz2
  clear hz4 hgm hb4 hst hne hlim hsz2 HZ3 HG3 HN3 HA HP2 HS HB0 HBX HSZ HZ HB
  go_wp2_with fail
  generalize W0.heap.size = g at *
  have hsign : ∀ (wr : World) (k : Nat) (v : Value) (pre : List Int), Sr w wr g (g + 1) gm (sgn z) z.natAbs k v pre → Calls Tryz.prog 76 #[.pointer (some ⟨g + 1, 0, none⟩)] wr fun e w' => e = .returned (.int .i64 (sgn (k : Int))) ∧ wr = w' := fun wr k v pre h => Me.sign h.1.2.2.1.zz
  have HSG := Lib.hid hsign
  clear hsign
  go_loopg [] (L z.natAbs).length (fun n wr => ∃ (k : Nat) (v : Value) (pre : List Int), n = (L k).length ∧ Hid (Sr w wr g (g + 1) gm (sgn z) z.natAbs k v pre))
  case atStart => exact ⟨_, _, [], rfl, HST⟩
  case round =>
    obtain ⟨k, v, pre, hlen, HR⟩ := hrel
    clear HST
    obtain ⟨A, c, rfl⟩ := Kd.R_slice HR.out.1.2.1
    by_cases hk : k = 0
    · subst hk
      have hs0 : sgn ((0 : Nat) : Int) = 0 := rfl
      have HS0 := Lib.hid hs0
      clear hs0 hlen
      go_wp2_with fail
      refine (HSG.out wr _ _ _ HR.out).mono ?_
      rintro e w2 ⟨rfl, rfl⟩
      rw [HS0.out]
      have k0 := kcq HR.out.1.1 0
      have k1 := kcq HR.out.1.1 1
      simp only [List.getElem?_toArray, List.getElem?_cons_zero, List.getElem?_cons_succ] at k0 k1
      have c0 := kcq HR.out.2 0
      have c1 := kcq HR.out.2 1
      have f0 := kfq HR.out.2 0
      have f1 := kfq HR.out.2 1
      simp only [List.getElem?_toArray, List.getElem?_cons_zero, List.getElem?_cons_succ] at c0 c1
      go_wp2
      have hL0 : pre = L z.natAbs := by have := HR.out.1.2.2.2.2.2; rwa [show L 0 = [] from dg_zero _, List.append_nil] at this
      have hR := Kd.R_set (Kd.R_set HR.out.1.2.1 HR.out.2 (by decide) 0 (.int .i64 (sgn z))) (blk_set HR.out.2 0 (.int .i64 (sgn z))) (by decide) 1 (.slice A pre.length c)
      have hB := (HR.out.1.2.2.2.2.1.setCell (p := ⟨w.heap.size, 0, none⟩) (Nat.le_refl _) (.int .i64 (sgn z))).setCell (p := ⟨w.heap.size, 1, none⟩) (Nat.le_refl _) (.slice A pre.length c)
      have hBL := blk_set (blk_set HR.out.2 0 (.int .i64 (sgn z))) 1 (.slice A pre.length c)
      clear c0 c1 f0 f1 k0 k1
      rw [← hL0]
      exact bodyPost_ret (results_ct rfl _ _ w.heap.size 28 #[.int .i64 (sgn z), .slice A pre.length c] (0, 0) _ rfl hBL Tryz.underlying28 rfl sizeW) rfl ⟨_, rfl, hR, hB⟩
    · have hs1 : sgn ((k : Nat) : Int) = 1 := by unfold sgn; rw [if_neg (by omega), if_neg (by omega)]
      have HS1 := Lib.hid hs1
      have HK := Lib.hid hk
      clear hs1 hk
      go_wp2_with fail
      refine (HSG.out wr _ _ _ HR.out).mono ?_
      rintro e w2 ⟨rfl, rfl⟩
      rw [HS1.out]
      have kc := kcq HR.out.1.1 1
      simp only [List.getElem?_toArray, List.getElem?_cons_zero, List.getElem?_cons_succ] at kc
      have hlt := HR.out.1.lt
      have hh := HR.out.1.2.2.2.2.2
      have hpl : (pre.length + 1) * 8 ≤ 140737488355328 := by have := congrArg List.length hh; rw [List.length_append] at this; have := HLIM.out; omega
      have hbk : bl k ≤ 2400 := by
        have : (L k).length ≤ 100 := by have := congrArg List.length hh; rw [List.length_append] at this; have := HLIM.out; omega
        have := (L_len_iff k 100).1 this
        omega
      rw [L_next HK.out] at hh hlen
      have he : (pre ++ [((k % 16777216 : Nat) : Int)]) ++ L (k / 16777216) = L z.natAbs := by rw [List.append_assoc]; exact hh
      have hms : (L (k / 16777216)).length < gk := by rw [hlen]; simp
      have HPL := Lib.hid hpl
      have HBK := Lib.hid hbk
      have HE := Lib.hid he
      have HMS := Lib.hid hms
      clear hh hpl hbk he hms hlen
      have hand : ∀ W : World, Below wr.heap.size wr W → Blk W wr.heap.size → Calls Tryz.prog 89 #[.pointer (some ⟨wr.heap.size, 0, none⟩), .pointer (some ⟨g + 1, 0, none⟩), .pointer (some ⟨gm, 0, none⟩)] W fun e w' => e = .returned (.pointer (some ⟨wr.heap.size, 0, none⟩)) ∧ Hid (Sr w w' g (g + 1) gm (sgn z) z.natAbs k (.slice A pre.length c) pre) ∧ Hid (Z w' wr.heap.size ((k % 16777216 : Nat) : Int)) ∧ w'.cell? ⟨g, 1, none⟩ = some (.slice A pre.length c) := by
        intro W hW hB
        have hr := HR.out.below hW
        have h0 := HR.out.1.2.2.1.zz.lt
        have h2 := HR.out.1.2.2.2.1.zz.lt
        have hbk : bl ((k : Nat) : Int).natAbs ≤ 2400 := by
          have := HBK.out
          rw [Int.natAbs_natCast]; omega
        refine (andd hB hr.1.2.2.1.zz hr.1.2.2.2.1.zz (by omega) (by decide)).mono ?_
        rintro e w' ⟨rfl, hz, hg⟩
        rw [and_mask] at hz
        have hr2 := hr.other hB (by omega) (by omega) (by have := HR.out.lt; omega) hg
        exact ⟨rfl, Lib.hid hr2, Lib.hid hz, hr2.1.cell⟩
      have HAND := Lib.hid hand
      have hint : ∀ W : World, Z W wr.heap.size ((k % 16777216 : Nat) : Int) → Calls Tryz.prog 81 #[.pointer (some ⟨wr.heap.size, 0, none⟩)] W fun e w' => e = .returned (.int .i64 ((k % 16777216 : Nat) : Int)) ∧ W = w' := fun W hW => int64 hW (by omega) (by omega)
      have HINT := Lib.hid hint
      clear hand hint
      go_wp2_with fail
      go_region_law (first | (go_simp; go_at_call 89; refine (HAND.out _ (by first | exact ((Below.refl _ _).alloc (Nat.le_refl _) _).drew | exact (Below.refl _ _).drew.alloc (Nat.le_refl _) _) (by first | exact (Z.new wr).blk.below (Below.refl _ _).drew | exact (Z.new wr.drew).blk)).mono ?_; rintro e w2 ⟨rfl, HR2, HZ2, kc2⟩; have hl2 := HR2.out.1.lt; clear HR kc) | (go_simp; go_at_call 81; refine (HINT.out _ HZ2.out).mono ?_; rintro e w3 ⟨rfl, rfl⟩) | (refine Kd.R_append_step (Kd.int .i64) (w0 := w) w.heap.size (by rfl) (.tmp 22) (.tmp 28) 22 2 (.int .i64 0) 8 rfl Tryz.underlying22 infoI rfl (by decide) (by omega) _ pre ((k % 16777216 : Nat) : Int) [.int .i64 ((k % 16777216 : Nat) : Int)] (fun _ => True) (fun _ => False) rfl rfl rfl (fun _ hk => hk.elim) (fun _ _ => trivial) HR2.out.1.2.1 HR2.out.1.2.2.2.2.1 HR2.out.1.2.2.2.2.1.size HPL.out ?_; intro v1 w1 ho hb hg hat; obtain ⟨A1, c1, rfl⟩ := Kd.R_slice ho; obtain ⟨ff, ⟨u, cc⟩, HP⟩ := HR2.out.put ho hg hat hb HSZ2.out; rw [show (pre ++ [((k % 16777216 : Nat) : Int)]).length = pre.length + 1 by simp] at HP; have HPH := Lib.hid HP; clear HP ho hb hg hat HR2))
      all_goals clear HAND HINT HZ2
      all_goals
        clear kc2 hl2 hlt
        go_wp2_with fail
        refine (rshF HPH.out.2.2.1.zz (n := 24) (Nat.le_trans HBK.out (by decide)) (by decide)).mono ?_
        intro e w5 hp
        have HR5 := Lib.hid (HPH.out.rest hp HNE.out (Nat.lt_succ_of_lt HSZ2.out) HE.out)
        obtain ⟨⟨rfl, hz5, hg5⟩, hf5⟩ := hp
        clear hz5 hg5 hf5 HPH ff cc
        go_wp2_with fail
        go_roundg (L (k / 16777216)).length
        case measure => exact HMS.out
        case rel => exact ⟨_, _, _, rfl, HR5⟩
end Go.Proofs.YtjggbalhpflbbaaGreat.Mo
end
section
namespace Go.Proofs.YtjggbalhpflbbaaGreat.Mq
end Go.Proofs.YtjggbalhpflbbaaGreat.Mq
end
section
set_option linter.unusedVariables false
set_option linter.unusedSimpArgs false
namespace Go.Proofs.YtjggbalhpflbbaaGreat.Mr
open Go.RowKit Go.Proofs.YtjggbalhpflbbaaGreatW.PrintWords Go.Proofs.YtjggbalhpflbbaaGreat.PW Go.Proofs.YtjggbalhpflbbaaGreat.Pc Go.Proofs.YtjggbalhpflbbaaGreat.Pb Go.Proofs.YtjggbalhpflbbaaGreat.Pw Go.Proofs.YtjggbalhpflbbaaGreat.Ma Go.Proofs.YtjggbalhpflbbaaGreat.Mb Go.Proofs.YtjggbalhpflbbaaGreat.Mc Go.Proofs.YtjggbalhpflbbaaGreat.Md Go.Proofs.YtjggbalhpflbbaaGreat.Me Go.Proofs.YtjggbalhpflbbaaGreat.Mg Go.Proofs.YtjggbalhpflbbaaGreat.Mh Go.Proofs.YtjggbalhpflbbaaGreat.Mq Dg
def both (s0 : Int) (l0 : List Int) (s1 : Int) (l1 : List Int) (z : Int) : Int × List Int × Int := if isW s0 l0 = true ∧ isW s1 l1 = true then fit z else (0, [], 1)
theorem twoBoxes (w : World) (a0 : Int) (A0 : Option Addr) (n0 c0 : Nat) (a1 : Int) (A1 : Option Addr) (n1 c1 : Nat) : ∀ W, Below (w.heap.size + 2) ((w.alloc (.cells #[.int .i64 a0, .slice A0 n0 c0] 28)).alloc (.cells #[.int .i64 a1, .slice A1 n1 c1] 28)) W →
    Below w.heap.size w W ∧ W.cell? ⟨w.heap.size, 0, none⟩ = some (.int .i64 a0) ∧ W.cell? ⟨w.heap.size, 1, none⟩ = some (.slice A0 n0 c0) ∧ W.cell? ⟨w.heap.size + 1, 0, none⟩ = some (.int .i64 a1) ∧ W.cell? ⟨w.heap.size + 1, 1, none⟩ = some (.slice A1 n1 c1) ∧ w.heap.size + 2 ≤ W.heap.size := by
  intro W hW
  have e1 : (w.alloc (.cells #[.int .i64 a0, .slice A0 n0 c0] 28)).heap.size = w.heap.size + 1 := by simp
  have hx := (hW.block w.heap.size (by omega)).trans (((Ma.waq (w.alloc (.cells #[.int .i64 a0, .slice A0 n0 c0] 28)) _).block w.heap.size (by simp)).trans (heap_alloc_new w _))
  have hy := (hW.block (w.heap.size + 1) (by omega)).trans (show _ = some (.cells #[.int .i64 a1, .slice A1 n1 c1] 28 (0, 0)) by have := heap_alloc_new (w.alloc (.cells #[.int .i64 a0, .slice A0 n0 c0] 28)) (.cells #[.int .i64 a1, .slice A1 n1 c1] 28); rw [e1] at this; exact this)
  exact ⟨(below_then (Ma.waq w _) (Ma.waq _ _)).trans (hW.mono (by omega)), kcq hx 0, kcq hx 1, kcq hy 0, kcq hy 1, by have := hW.size; simp at this; exact this⟩
end Go.Proofs.YtjggbalhpflbbaaGreat.Mr
end
section
set_option linter.unusedVariables false
set_option linter.unusedSimpArgs false
namespace Go.Proofs.YtjggbalhpflbbaaGreat.Mu
open Go.RowKit Go.Proofs.YtjggbalhpflbbaaGreatW.PrintWords Go.Proofs.YtjggbalhpflbbaaGreat.PW Go.Proofs.YtjggbalhpflbbaaGreat.Pc Go.Proofs.YtjggbalhpflbbaaGreat.Pb Go.Proofs.YtjggbalhpflbbaaGreat.Pw Go.Proofs.YtjggbalhpflbbaaGreat.Ma Go.Proofs.YtjggbalhpflbbaaGreat.Mb Go.Proofs.YtjggbalhpflbbaaGreat.Mc Go.Proofs.YtjggbalhpflbbaaGreat.Md Go.Proofs.YtjggbalhpflbbaaGreat.Me Go.Proofs.YtjggbalhpflbbaaGreat.Mg Go.Proofs.YtjggbalhpflbbaaGreat.Mh Go.Proofs.YtjggbalhpflbbaaGreat.Mq Go.Proofs.YtjggbalhpflbbaaGreat.Mr Dg
theorem bl_add_natAbs (x y : Int) : bl (x + y).natAbs ≤ max (bl x.natAbs) (bl y.natAbs) + 1 :=
  Nat.le_trans (bl_mono (Int.natAbs_add_le x y)) (bl_add_le _ _)
theorem alloc_size (w : World) (o : Obj) : (w.alloc o).heap.size = w.heap.size + 1 := by simp
theorem threeBoxes (w : World) (a0 : Int) (A0 : Option Addr) (n0 c0 : Nat) (a1 : Int) (A1 : Option Addr) (n1 c1 : Nat) : ∀ W, Below (w.heap.size + 3) (((w.alloc (.cells #[.int .i64 a0, .slice A0 n0 c0] 28)).alloc (.cells #[.int .i64 a1, .slice A1 n1 c1] 28)).alloc (.cells #[.int .i64 0, .slice none 0 0] 28)) W →
    Below w.heap.size w W ∧ W.cell? ⟨w.heap.size, 0, none⟩ = some (.int .i64 a0) ∧ W.cell? ⟨w.heap.size, 1, none⟩ = some (.slice A0 n0 c0) ∧ W.cell? ⟨w.heap.size + 1, 0, none⟩ = some (.int .i64 a1) ∧ W.cell? ⟨w.heap.size + 1, 1, none⟩ = some (.slice A1 n1 c1) ∧ (w.heap.size + 3 ≤ W.heap.size ∧ w.heap.size < W.heap.size ∧ w.heap.size + 1 < W.heap.size ∧ w.heap.size + 1 + 1 < W.heap.size) ∧ W.heap[w.heap.size + 1 + 1]? = some (.cells #[.int .i64 0, .slice none 0 0] 28 (0, 0)) := by
  intro W hW
  have e2 : ((w.alloc (.cells #[.int .i64 a0, .slice A0 n0 c0] 28)).alloc (.cells #[.int .i64 a1, .slice A1 n1 c1] 28)).heap.size = w.heap.size + 2 := by rw [alloc_size, alloc_size]
  have hz : ((((w.alloc (.cells #[.int .i64 a0, .slice A0 n0 c0] 28)).alloc (.cells #[.int .i64 a1, .slice A1 n1 c1] 28)).alloc (.cells #[.int .i64 0, .slice none 0 0] 28))).heap[w.heap.size + 2]? = some (.cells #[.int .i64 0, .slice none 0 0] 28 (0, 0)) := by
    have := heap_alloc_new ((w.alloc (.cells #[.int .i64 a0, .slice A0 n0 c0] 28)).alloc (.cells #[.int .i64 a1, .slice A1 n1 c1] 28)) (.cells #[.int .i64 0, .slice none 0 0] 28)
    rw [e2] at this; exact this
  have hb := Ma.waq ((w.alloc (.cells #[.int .i64 a0, .slice A0 n0 c0] 28)).alloc (.cells #[.int .i64 a1, .slice A1 n1 c1] 28)) (.cells #[.int .i64 0, .slice none 0 0] 28)
  rw [e2] at hb
  obtain ⟨h1, h2, h3, h4, h5, h6⟩ := twoBoxes w a0 A0 n0 c0 a1 A1 n1 c1 W (hb.trans (hW.mono (by omega)))
  have h7 : w.heap.size + 3 ≤ W.heap.size := by have := hW.size; rw [alloc_size, e2] at this; exact this
  exact ⟨h1, h2, h3, h4, h5, ⟨h7, by omega, by omega, by omega⟩, (hW.block _ (by omega)).trans hz⟩
theorem storedW {w W : World} {g : Nat} {s : Int} {u : Value} {l : List Int} (hg : W.heap[g]? = some (.cells #[.int .i64 0, .slice none 0 0] 28 (0, 0))) (hb : Below w.heap.size w W) (hw : w.heap.size ≤ g) (hR : Kd.R (Kd.int .i64) 2 W w.heap.size (fun _ => True) u l) :
    (((W.setCell ⟨g, 0, none⟩ (.int .i64 s)).setCell ⟨g, 1, none⟩ u)).heap[g]? = some (.cells #[.int .i64 s, u] 28 (0, 0)) ∧ Kd.R (Kd.int .i64) 2 ((W.setCell ⟨g, 0, none⟩ (.int .i64 s)).setCell ⟨g, 1, none⟩ u) w.heap.size (fun _ => True) u l ∧ Below w.heap.size w ((W.setCell ⟨g, 0, none⟩ (.int .i64 s)).setCell ⟨g, 1, none⟩ u) :=
  ⟨blk_set (blk_set hg 0 _) 1 _, Kd.R_set (Kd.R_set hR hg (by decide) 0 _) (blk_set hg 0 _) (by decide) 1 _, (hb.setCell (p := ⟨g, 0, none⟩) hw _).setCell (p := ⟨g, 1, none⟩) hw _⟩
theorem below_put {B q : Nat} {w w1 w2 : World} (h : Below B w w1) (k : w1.grownBy w2 (some q)) (hq : B ≤ q) (hw1 : B ≤ w1.heap.size) : Below B w w2 :=
  h.trans ⟨k.os, k.tape, k.output, k.size, fun i hi => k.block i (Nat.lt_of_lt_of_le hi hw1) (by simp; omega)⟩
theorem cellsOf {W : World} {g : Nat} (hg : W.heap[g]? = some (.cells #[.int .i64 0, .slice none 0 0] 28 (0, 0))) : W.cell? ⟨g, 0, none⟩ = some (.int .i64 0) ∧ W.cell? ⟨g, 1, none⟩ = some (.slice none 0 0) ∧ W.frozen? ⟨g, 0, none⟩ = false ∧ W.frozen? ⟨g, 1, none⟩ = false :=
  ⟨kcq hg 0, kcq hg 1, kfq hg 0, kfq hg 1⟩
end Go.Proofs.YtjggbalhpflbbaaGreat.Mu
end
section
set_option linter.unusedVariables false
namespace Go.Proofs.YtjggbalhpflbbaaGreat.Re
open Go.RowKit Go.Proofs.YtjggbalhpflbbaaGreat.Pm Go.Proofs.YtjggbalhpflbbaaGreat.Mu Go.Proofs.YtjggbalhpflbbaaGreat.Ve Dg Fp
def rq (long : Nat) (e : Int) : Int := if (long : Int) + e - 24 < -149 then -149 else (long : Int) + e - 24
def ups (mode s : Int) (t r h : Nat) : Bool :=
  if mode = 0 then decide (h < r ∨ r = h ∧ t % 2 = 1) else if mode = 1 then decide (s < 0) else if mode = 2 then decide (0 < s) else decide (mode = 4)
def rt (z e mode : Int) : Nat × Int :=
  if rq (bl z.natAbs) e ≤ e then (z.natAbs * 2 ^ (e - rq (bl z.natAbs) e).toNat, 0)
  else if z.natAbs % 2 ^ (rq (bl z.natAbs) e - e).toNat = 0 then (z.natAbs / 2 ^ (rq (bl z.natAbs) e - e).toNat, 0)
  else (z.natAbs / 2 ^ (rq (bl z.natAbs) e - e).toNat + (if ups mode (sgn z) (z.natAbs / 2 ^ (rq (bl z.natAbs) e - e).toNat) (z.natAbs % 2 ^ (rq (bl z.natAbs) e - e).toNat) (2 ^ ((rq (bl z.natAbs) e - e).toNat - 1)) = true then 1 else 0), if (bl z.natAbs : Int) + e ≤ -126 then 3 else 1)
def rnd (z e mode : Int) : Nat × Int :=
  if z = 0 then (0, 0)
  else if 128 < (bl z.natAbs : Int) + e then (ovr (sgn z) mode, 5)
  else if 128 < (bl (rt z e mode).1 : Int) + rq (bl z.natAbs) e then (ovr (sgn z) mode, 5)
  else (Ieee.single.nearest (decide (z < 0)) (rt z e mode).1 (rq (bl z.natAbs) e), (rt z e mode).2)
end Go.Proofs.YtjggbalhpflbbaaGreat.Re
end
section
set_option linter.unusedVariables false
set_option linter.unusedSimpArgs false
namespace Go.Proofs.YtjggbalhpflbbaaGreat.Rf
open Go.RowKit Go.Proofs.YtjggbalhpflbbaaGreat.Pm Go.Proofs.YtjggbalhpflbbaaGreat.Mu Go.Proofs.YtjggbalhpflbbaaGreat.Ve Go.Proofs.YtjggbalhpflbbaaGreat.Re Go.Proofs.YtjggbalhpflbbaaGreat.We Dg Fp
theorem natAbs_two (z : Int) (j : Nat) : (z * 2 ^ j).natAbs = z.natAbs * 2 ^ j := by
  rw [Int.natAbs_mul, show ((2 : Int) ^ j).natAbs = 2 ^ j by rw [Int.natAbs_pow]; rfl]
theorem odd_mod {a d : Nat} (ha : a % 2 = 1) (hd : 1 ≤ d) : a % 2 ^ d ≠ 0 := by
  intro h
  have h1 : a % 2 ^ d % 2 = a % 2 := Nat.mod_mod_of_dvd _ (by
    obtain ⟨k, rfl⟩ : ∃ k, d = k + 1 := ⟨d - 1, by omega⟩
    exact ⟨2 ^ k, by rw [Nat.pow_succ, Nat.mul_comm]⟩)
  rw [h] at h1
  omega
theorem ups_odd {a d : Nat} (mode s : Int) (ha : a % 2 = 1) (hd : 1 ≤ d) :
    ups mode s (a / 2 ^ d) (a % 2 ^ d) (2 ^ (d - 1)) = (if mode = 0 then decide (a / 2 ^ (d - 1) % 2 = 1 ∧ (1 < d ∨ a / 2 ^ d % 2 = 1)) else if mode = 1 then decide (s < 0) else if mode = 2 then decide (0 < s) else decide (mode = 4)) := by
  unfold ups
  by_cases hm : mode = 0
  · rw [if_pos hm, if_pos hm]
    obtain ⟨k, rfl⟩ : ∃ k, d = k + 1 := ⟨d - 1, by omega⟩
    rw [show k + 1 - 1 = k by omega]
    have hs := Nat.mod_pow_succ (b := 2) (x := a) (k := k)
    have hl := Nat.mod_lt a (Nat.two_pow_pos k)
    rw [hs]
    generalize a / 2 ^ (k + 1) % 2 = T
    have hb : a / 2 ^ k % 2 < 2 := Nat.mod_lt _ (by decide)
    have h0 : k = 0 → a % 2 ^ k = 0 := by rintro rfl; simp [Nat.mod_one]
    have h1 : k ≠ 0 → a % 2 ^ k ≠ 0 := fun h => odd_mod ha (by omega)
    clear hs
    generalize a / 2 ^ k % 2 = b at *
    generalize a % 2 ^ k = r at *
    generalize 2 ^ k = p at *
    congr 1
    have hb2 : b = 0 ∨ b = 1 := by omega
    rcases hb2 with rfl | rfl
    · rw [Nat.mul_zero, Nat.add_zero]
      refine propext ⟨fun h => ?_, fun h => ?_⟩ <;> omega
    · rw [Nat.mul_one]
      by_cases hk : k = 0
      · have := h0 hk
        refine propext ⟨fun h => ?_, fun h => ?_⟩ <;> omega
      · have := h1 hk
        refine propext ⟨fun h => ?_, fun h => ?_⟩ <;> omega
  · rw [if_neg hm, if_neg hm]
theorem rq_bd (n : Nat) (e : Int) : -149 ≤ rq n e ∧ (n : Int) + e - 24 ≤ rq n e := by
  unfold rq
  split <;> omega
theorem rq_le {n : Nat} {e : Int} (h : (n : Int) + e ≤ 128) : rq n e ≤ 104 := by
  unfold rq
  split <;> omega
theorem rt_le (z e mode : Int) : (rt z e mode).1 ≤ 16777216 := by
  have hq := rq_bd (bl z.natAbs) e
  have hb : ∀ k, bl z.natAbs ≤ k → z.natAbs < 2 ^ k := fun k h => bl_iff.1 h
  have e24 : (2 : Nat) ^ 24 = 16777216 := by decide
  unfold rt
  generalize rq (bl z.natAbs) e = Q at *
  by_cases hA : Q ≤ e
  · rw [if_pos hA]
    have h1 := hb (24 - (e - Q).toNat) (by omega)
    have h2 := Nat.mul_le_mul_right (2 ^ (e - Q).toNat) (Nat.le_of_lt h1)
    by_cases hz : bl z.natAbs = 0
    · rw [bl_eq_zero] at hz
      show z.natAbs * _ ≤ _
      rw [hz, Nat.zero_mul]; omega
    · rw [← Nat.pow_add, show 24 - (e - Q).toNat + (e - Q).toNat = 24 by omega, e24] at h2
      exact h2
  · rw [if_neg hA]
    have h1 := hb (24 + (Q - e).toNat) (by omega)
    rw [Nat.pow_add, e24] at h1
    have h2 : z.natAbs / 2 ^ (Q - e).toNat < 16777216 := Nat.div_lt_of_lt_mul (by rw [Nat.mul_comm]; exact h1)
    by_cases hr : z.natAbs % 2 ^ (Q - e).toNat = 0
    · rw [if_pos hr]; exact Nat.le_of_lt h2
    · rw [if_neg hr]
      show z.natAbs / 2 ^ (Q - e).toNat + (if _ then 1 else 0) ≤ 16777216
      split <;> omega
theorem rp_of {t : Nat} {Q : Int} (ht : t ≤ 16777216) (h1 : -149 ≤ Q) (h2 : (bl t : Int) + Q ≤ 128) (h3 : Q ≤ 104) : ∃ m e, Rp Ieee.single m e ∧ V t Q = V m e := by
  by_cases hb : t = 16777216
  · subst hb
    have h25 : bl 16777216 = 25 := by rw [show (16777216 : Nat) = 1 * 2 ^ 24 by decide, bl_shift (by decide)]; rfl
    rw [h25] at h2
    refine ⟨8388608, Q + 1, ⟨by rw [bi32]; decide, by rw [lp32]; omega, by rw [top32]; omega⟩, ?_⟩
    have := V_shift 8388608 Q 1 (by unfold K; omega)
    rw [show Q + ((1 : Nat) : Int) = Q + 1 by omega] at this
    rw [this]
  · exact ⟨t, Q, ⟨by rw [bi32]; omega, by rw [lp32]; omega, by rw [top32]; omega⟩, rfl⟩
theorem near_isN (s : Bool) {t : Nat} {Q : Int} (ht : t ≤ 16777216) (h1 : -149 ≤ Q) (h2 : (bl t : Int) + Q ≤ 128) (h3 : Q ≤ 104) : IsN Ieee.single (Ieee.single.nearest s t Q) s (V t Q) := by
  obtain ⟨m, e, hr, hv⟩ := rp_of ht h1 h2 h3
  rw [hv]
  exact isN_nearest hK32 s hr (by unfold K; omega) hv
theorem narrow_t {x t : Nat} {s : Bool} {Q : Int} (hx : IsN Ieee.double x s (V t Q)) (ht : t ≤ 16777216) (h1 : -149 ≤ Q) (h2 : (bl t : Int) + Q ≤ 128) (h3 : Q ≤ 104) : floatToFloatBits .f64 x .f32 = some (Ieee.single.nearest s t Q) := by
  have hn := near_isN s ht h1 h2 h3
  obtain ⟨m, e, hr, hv⟩ := rp_of ht h1 h2 h3
  rw [hv] at hx hn
  obtain ⟨r, h, hi⟩ := narrow hx hr
  rw [h, hi.unique hK32 hn]
theorem opp_near {t : Nat} {Q : Int} (ht : t ≤ 16777216) (h1 : -149 ≤ Q) (h2 : (bl t : Int) + Q ≤ 128) (h3 : Q ≤ 104) : opp (Ieee.single.nearest false t Q) = Ieee.single.nearest true t Q := by
  have ha := near_isN false ht h1 h2 h3
  have hb := near_isN true ht h1 h2 h3
  obtain ⟨m, e, _, c, hr, hw, hv⟩ := ha
  have hl : rung Ieee.single m e < Ieee.single.signWeight := by rw [sw32]; rw [ir32] at hr; omega
  have hc := isN_word true c hr
  rw [hv] at hc
  refine IsN.unique hK32 ?_ hb
  have : opp (Ieee.single.nearest false t Q) = Ieee.single.word true (rung Ieee.single m e) := by
    unfold opp
    rw [hw, (sg_word hl).1, (sg_word hl).2]
    rfl
  rw [this]
  exact hc
theorem near_lt (s : Bool) {t : Nat} {Q : Int} (ht : t ≤ 16777216) (h1 : -149 ≤ Q) (h2 : (bl t : Int) + Q ≤ 128) (h3 : Q ≤ 104) : Ieee.single.nearest s t Q < 4294967296 ∧ nan Ieee.single (Ieee.single.nearest s t Q) = false := by
  have h := near_isN s ht h1 h2 h3
  have hl := isN_lt h
  rw [wd32] at hl
  exact ⟨hl, (isN_fin' h).2.1⟩
theorem ovr_lt (s mode : Int) : ovr s mode < 4294967296 ∧ nan Ieee.single (ovr s mode) = false := by
  unfold ovr
  split <;> split <;> exact ⟨by decide, by decide⟩
theorem rnd_ok (z e mode : Int) : (rnd z e mode).1 < 4294967296 ∧ nan Ieee.single (rnd z e mode).1 = false := by
  unfold rnd
  by_cases h0 : z = 0
  · rw [if_pos h0]; exact ⟨by show (0 : Nat) < _; decide, by show nan Ieee.single 0 = false; decide⟩
  · rw [if_neg h0]
    by_cases h1 : 128 < (bl z.natAbs : Int) + e
    · rw [if_pos h1]; exact ovr_lt _ _
    · rw [if_neg h1]
      by_cases h2 : 128 < (bl (rt z e mode).1 : Int) + rq (bl z.natAbs) e
      · rw [if_pos h2]; exact ovr_lt _ _
      · rw [if_neg h2]
        exact near_lt _ (rt_le _ _ _) (rq_bd _ _).1 (by omega) (rq_le (by omega))
end Go.Proofs.YtjggbalhpflbbaaGreat.Rf
end
section
set_option linter.unusedVariables false
set_option linter.unusedSimpArgs false
namespace Go.Proofs.YtjggbalhpflbbaaGreat.Na
open Go.RowKit Go.Proofs.YtjggbalhpflbbaaGreatW.PrintWords Go.Proofs.YtjggbalhpflbbaaGreat.PW Go.Proofs.YtjggbalhpflbbaaGreat.Pc Go.Proofs.YtjggbalhpflbbaaGreat.Pb Go.Proofs.YtjggbalhpflbbaaGreat.Pw Go.Proofs.YtjggbalhpflbbaaGreat.Ma Go.Proofs.YtjggbalhpflbbaaGreat.Mb Go.Proofs.YtjggbalhpflbbaaGreat.Mc Go.Proofs.YtjggbalhpflbbaaGreat.Md Go.Proofs.YtjggbalhpflbbaaGreat.Me Go.Proofs.YtjggbalhpflbbaaGreat.Mg Go.Proofs.YtjggbalhpflbbaaGreat.Mh Go.Proofs.YtjggbalhpflbbaaGreat.Mk Go.Proofs.YtjggbalhpflbbaaGreat.Mn Go.Proofs.YtjggbalhpflbbaaGreat.Mu Go.Proofs.YtjggbalhpflbbaaGreat.Nb Dg
open Pm (sgn)
theorem sizeN : (Tryz.prog.info? 50).map (·.size) = some 2 := by kernel_rfl
theorem boxes1 (w : World) (o : Obj) : ∀ W, Below (w.heap.size + 1) (w.alloc o) W → Below w.heap.size w W ∧ W.heap[w.heap.size]? = some o ∧ w.heap.size + 1 ≤ W.heap.size := fun W hW =>
  ⟨(Ma.waq w o).trans (hW.mono (by omega)), (hW.block _ (by omega)).trans (heap_alloc_new w o), by have := hW.size; rw [alloc_size] at this; exact this⟩
theorem boxes2 (w : World) (o o2 : Obj) : ∀ W, Below (w.heap.size + 2) ((w.alloc o).alloc o2) W → Below w.heap.size w W ∧ W.heap[w.heap.size]? = some o ∧ W.heap[w.heap.size + 1]? = some o2 ∧ w.heap.size + 2 ≤ W.heap.size := fun W hW => by
  have e := alloc_size w o
  have h := boxes1 (w.alloc o) o2 W (by rw [e]; exact hW)
  rw [e] at h
  exact ⟨(Ma.waq w o).trans (h.1.mono (by omega)), (h.1.block _ (by omega)).trans (heap_alloc_new w o), h.2.1, h.2.2⟩
theorem boxes3 (w : World) (o o2 o3 : Obj) : ∀ W, Below (w.heap.size + 3) (((w.alloc o).alloc o2).alloc o3) W → Below w.heap.size w W ∧ W.heap[w.heap.size]? = some o ∧ W.heap[w.heap.size + 1]? = some o2 ∧ W.heap[w.heap.size + 1 + 1]? = some o3 ∧ w.heap.size + 3 ≤ W.heap.size := fun W hW => by
  have e := alloc_size w o
  have h := boxes2 (w.alloc o) o2 o3 W (by rw [e]; exact hW)
  rw [e] at h
  exact ⟨(Ma.waq w o).trans (h.1.mono (by omega)), (h.1.block _ (by omega)).trans (heap_alloc_new w o), h.2.1, h.2.2.1, h.2.2.2⟩
theorem zset {w : World} {p gw t : Nat} {n : Int} {cs : Array Value} (h : Z w p n) (hw : w.heap[gw]? = some (.cells cs t (0, 0))) (ht : t ≠ 94) (hc : ∀ (i : Nat) (x : Int), cs[i]? ≠ some (Value.int .u32 x)) (i : Nat) (u : Value) : Z (w.setCell ⟨gw, i, none⟩ u) p n := by
  obtain ⟨A, c, hb, hm⟩ := h
  have hne : p ≠ gw := by
    rintro rfl
    rw [hb] at hw
    injection hw with hw
    injection hw with _ hw
    exact ht hw.symm
  refine ⟨A, c, (Below.heap_setCell _ _ _ _ hne).trans hb, Mn.Mg.kept_at hm fun ad hA hn => Below.heap_setCell _ _ _ _ ?_⟩
  intro e
  have e : ad.block = gw := e
  obtain ⟨ad', hA', hc'⟩ := hm.1.2.2 hn
  rw [hA] at hA'
  injection hA' with hA'
  subst hA'
  obtain ⟨cs', hs, hR, hcell⟩ := hc' 0 _ (List.getElem?_eq_getElem hn)
  have hR' : cs' = [.int .u32 (D n.natAbs)[0]] := hR
  subst hR'
  have h4 := hcell 0 _ rfl
  rw [← e] at hw
  simp only [World.cell?, Mn.add_block, hw] at h4
  split at h4
  · cases h4
  · exact hc _ _ h4
def GivesN (w : World) (z e : Int) (en : Ending) (w' : World) : Prop := ∃ g, en = .returned (.agg #[.pointer (some ⟨g, 0, none⟩), .int .i64 e]) ∧ Z w' g z ∧ Below w.heap.size w w'
theorem two_cells {u v : Value} (hu : ∀ x : Int, u ≠ Value.int .u32 x) (hv : ∀ x : Int, v ≠ Value.int .u32 x) : ∀ (i : Nat) (x : Int), (#[u, v] : Array Value)[i]? ≠ some (Value.int .u32 x) := by
  intro i x h
  match i, h with
  | 0, h => exact hu x (by simpa using h)
  | 1, h => exact hv x (by simpa using h)
  | n + 2, h => simp at h
theorem storedN {w W : World} {g q : Nat} {z e : Int} (hg : W.heap[g]? = some (.cells #[.pointer none, .int .i64 0] 50 (0, 0))) (hb : Below w.heap.size w W) (hw : w.heap.size ≤ g) (hz : Z W q z) :
    ((W.setCell ⟨g, 0, none⟩ (.pointer (some ⟨q, 0, none⟩))).setCell ⟨g, 1, none⟩ (.int .i64 e)).heap[g]? = some (.cells #[.pointer (some ⟨q, 0, none⟩), .int .i64 e] 50 (0, 0)) ∧ Z ((W.setCell ⟨g, 0, none⟩ (.pointer (some ⟨q, 0, none⟩))).setCell ⟨g, 1, none⟩ (.int .i64 e)) q z ∧ Below w.heap.size w ((W.setCell ⟨g, 0, none⟩ (.pointer (some ⟨q, 0, none⟩))).setCell ⟨g, 1, none⟩ (.int .i64 e)) :=
  ⟨blk_set (blk_set hg 0 _) 1 _, zset (zset hz hg (by decide) (two_cells (fun x => by simp) (fun x => by simp)) 0 _) (blk_set hg 0 (.pointer (some ⟨q, 0, none⟩))) (by decide) (two_cells (fun x => by simp) (fun x => by simp)) 1 _, (hb.setCell (p := ⟨g, 0, none⟩) hw _).setCell (p := ⟨g, 1, none⟩) hw _⟩
theorem cellsN {W : World} {g : Nat} {u v : Value} {t : Nat} (hg : W.heap[g]? = some (.cells #[u, v] t (0, 0))) : W.cell? ⟨g, 0, none⟩ = some u ∧ W.cell? ⟨g, 1, none⟩ = some v ∧ W.frozen? ⟨g, 0, none⟩ = false ∧ W.frozen? ⟨g, 1, none⟩ = false ∧ g < W.heap.size :=
  ⟨kcq hg 0, kcq hg 1, kfq hg 0, kfq hg 1, (Array.getElem?_eq_some_iff.1 hg).1⟩
theorem news_below {W0 W W2 : World} {p : Nat} (h : Below W0.heap.size W0 W) (hp : W0.heap.size ≤ p) (hg : W.grownBy W2 (some p)) : Below W0.heap.size W0 W2 := below_put h hg hp h.size
set_option maxHeartbeats 400000 in
theorem nsign {w : World} {q : Nat} {z e : Int} (hz : Z w q z) :
    Calls Tryz.prog 67 #[.agg #[.pointer (some ⟨q, 0, none⟩), .int .i64 e]] w fun en w' => en = .returned (.int .i64 (sgn z)) ∧ Below w.heap.size w w' := by
  have HS := Lib.hid (Me.sign (hz.below (Ma.waq w (.cells #[.pointer (some ⟨q, 0, none⟩), .int .i64 e] 50))))
  clear hz
  go_enter Tryz.func67, Tryz.ntmps67
  go_wp2_with fail
  refine HS.out.mono ?_
  rintro en w1 ⟨rfl, rfl⟩
  go_wp2
  go_ret
  exact ⟨rfl, Ma.waq _ _⟩
set_option maxHeartbeats 800000 in
theorem nneg {w : World} {q : Nat} {z e : Int} (hz : Z w q z) (h1 : bl z.natAbs ≤ 1073741823) :
    Calls Tryz.prog 46 #[.agg #[.pointer (some ⟨q, 0, none⟩), .int .i64 e]] w (GivesN w (-z) e) := by
  obtain ⟨W0, hW0⟩ : ∃ W0, W0 = (w.alloc (.cells #[.pointer (some ⟨q, 0, none⟩), .int .i64 e] 50)).alloc (.cells #[.pointer none, .int .i64 0] 50) := ⟨_, rfl⟩
  obtain ⟨hb0, hx0, hx1, hs0⟩ := boxes2 w (.cells #[.pointer (some ⟨q, 0, none⟩), .int .i64 e] 50) (.cells #[.pointer none, .int .i64 0] 50) W0 (by rw [hW0]; exact Below.refl _ _)
  have HN := Lib.hid (fun (W : World) (p : Nat) (hp : Blk W p) (hb : Below W0.heap.size W0 W) => Me.neg hp ((hz.below hb0).below hb) h1)
  have HB0 := Lib.hid hb0
  have HX0 := Lib.hid hx0
  have HX1 := Lib.hid hx1
  have HW := Lib.hid hW0
  obtain ⟨c0, c1, _, _, l0⟩ := cellsN hx0
  obtain ⟨d0, d1, f0, f1, l1⟩ := cellsN hx1
  clear hz hb0 hx0 hx1 hW0 h1
  go_enter Tryz.func46, Tryz.ntmps46
  go_wp2_with fail
  rw [← HW.out]
  clear HW
  go_region_held3 (fun w' => w'.cell? ⟨w.heap.size, 0, none⟩ = some (.pointer (some ⟨q, 0, none⟩)) ∧ w'.cell? ⟨w.heap.size, 1, none⟩ = some (.int .i64 e)) (go_keep)
    (first | (go_at_call 85; refine (HN.out _ _ (by first | exact (Z.new _).blk | exact (Z.new W0).blk.below (Below.refl _ _).drew) (by first | exact Ma.waq _ _ | exact (Below.refl _ _).drew.alloc (Nat.le_refl _) _ | exact (Ma.waq _ _).drew)).mono ?_; rintro en w2 ⟨rfl, hz2, hg2⟩; have hb2 := news_below (W0 := W0) (by first | exact Ma.waq _ _ | exact (Below.refl _ _).drew.alloc (Nat.le_refl _) _ | exact (Ma.waq _ _).drew) (Nat.le_refl _) hg2; have hx0 := (hb2.block _ l0).trans HX0.out; have hx1 := (hb2.block _ l1).trans HX1.out; obtain ⟨a0, a1, _, _, k0⟩ := cellsN hx0; obtain ⟨b0, b1, g0, g1, k1⟩ := cellsN hx1; have HX2 := Lib.hid hx1; have HB2 := Lib.hid (HB0.out.trans (hb2.mono (Nat.le_trans (by omega) hs0))); have HZ2 := Lib.hid hz2; clear hz2 hg2 hb2 hx0 hx1))
  all_goals go_wp2
  all_goals
    have hst := storedN (e := e) HX2.out HB2.out (by omega) HZ2.out
    exact bodyPost_ret (results_single rfl (.cell (w.heap.size + 1) 50 #[.pointer (some ⟨W0.heap.size, 0, none⟩), .int .i64 e] (0, 0) _ rfl hst.1 Tryz.underlying50 rfl sizeN .nil)) rfl ⟨_, rfl, hst.2.1, hst.2.2⟩
end Go.Proofs.YtjggbalhpflbbaaGreat.Na
end
section
set_option linter.unusedVariables false
set_option linter.unusedSimpArgs false
namespace Go.Proofs.YtjggbalhpflbbaaGreat.Nc
open Go.RowKit Go.Proofs.YtjggbalhpflbbaaGreatW.PrintWords Go.Proofs.YtjggbalhpflbbaaGreat.PW Go.Proofs.YtjggbalhpflbbaaGreat.Pc Go.Proofs.YtjggbalhpflbbaaGreat.Pb Go.Proofs.YtjggbalhpflbbaaGreat.Pw Go.Proofs.YtjggbalhpflbbaaGreat.Ma Go.Proofs.YtjggbalhpflbbaaGreat.Mb Go.Proofs.YtjggbalhpflbbaaGreat.Mc Go.Proofs.YtjggbalhpflbbaaGreat.Md Go.Proofs.YtjggbalhpflbbaaGreat.Me Go.Proofs.YtjggbalhpflbbaaGreat.Mg Go.Proofs.YtjggbalhpflbbaaGreat.Mh Go.Proofs.YtjggbalhpflbbaaGreat.Mk Go.Proofs.YtjggbalhpflbbaaGreat.Mn Go.Proofs.YtjggbalhpflbbaaGreat.Mu Go.Proofs.YtjggbalhpflbbaaGreat.Na Dg
open Pm (sgn)
theorem GivesN.of {w W w' : World} {z e : Int} {en : Ending} (hb : Below w.heap.size w W) (h : GivesN W z e en w') : GivesN w z e en w' := by
  obtain ⟨g, he, hz, hbl⟩ := h
  exact ⟨g, he, hz, below_then hb hbl⟩
set_option maxHeartbeats 800000 in
theorem nat {w : World} {q : Nat} {z e : Int} {k : Nat} {e2 : Int} (hz : Z w q z) (hk : e - e2 = (k : Int)) (h1 : bl z.natAbs ≤ 268435456) (h2 : k ≤ 268435456) :
    Calls Tryz.prog 84 #[.agg #[.pointer (some ⟨q, 0, none⟩), .int .i64 e], .int .i64 e2] w (News w (z * 2 ^ k)) := by
  obtain ⟨hb0, hx0, hs0⟩ := boxes1 w (.cells #[.pointer (some ⟨q, 0, none⟩), .int .i64 e] 50) (w.alloc (.cells #[.pointer (some ⟨q, 0, none⟩), .int .i64 e] 50)) (Below.refl _ _)
  obtain ⟨W0, hW0⟩ : ∃ W0, W0 = w.alloc (.cells #[.pointer (some ⟨q, 0, none⟩), .int .i64 e] 50) := ⟨_, rfl⟩
  rw [← hW0] at hb0 hx0 hs0
  have HL := Lib.hid (Md.lsh (n := k) (Z.new W0).blk ((hz.below hb0).below (Ma.waq W0 _)) h1 h2)
  have hkw : IntKind.u64.wrap (wrap64 (e - e2)) = (k : Int) := by rw [hk, IntKind.wrap_u64]; unfold wrap64; omega
  have HKW := Lib.hid hkw
  have HB0 := Lib.hid hb0
  have HW := Lib.hid hW0
  obtain ⟨c0, c1, _, _, l0⟩ := cellsN hx0
  clear hz hb0 hx0 hW0 h1 hkw hk h2
  go_enter Tryz.func84, Tryz.ntmps84
  go_upto_region 1 with fail
  rw [← HW.out]
  clear HW
  go_wp2_with fail
  rw [HKW.out]
  refine HL.out.mono ?_
  intro en w1 hp
  have hN := Lib.hid (Mc.Puts.news hp)
  obtain ⟨rfl, hz, hg⟩ := hp
  clear hz hg
  go_wp2
  go_ret
  obtain ⟨g, he, hz, hle, hb⟩ := hN.out
  exact ⟨g, he, hz, Nat.le_trans (by omega) hle, below_then HB0.out hb⟩
def addz (x e y f : Int) : Int := if x = 0 then y else if y = 0 then x else x * 2 ^ (e - min e f).toNat + y * 2 ^ (f - min e f).toNat
def adde (x e y f : Int) : Int := if x = 0 then f else if y = 0 then e else min e f
theorem sgn_eq0 {z : Int} : (sgn z = 0) = (z = 0) := by
  apply propext
  unfold Pm.sgn
  split
  · omega
  · split <;> omega
set_option maxRecDepth 20000 in
set_option maxHeartbeats 3200000 in
theorem nadd {w : World} {q s : Nat} {x y e f : Int} (hx : Z w q x) (hy : Z w s y) (hbx : bl x.natAbs ≤ 100000000) (hby : bl y.natAbs ≤ 100000000) (h1 : -1000000 ≤ e) (h2 : e ≤ 1000000) (h3 : -1000000 ≤ f) (h4 : f ≤ 1000000) :
    Calls Tryz.prog 45 #[.agg #[.pointer (some ⟨q, 0, none⟩), .int .i64 e], .agg #[.pointer (some ⟨s, 0, none⟩), .int .i64 f]] w (GivesN w (addz x e y f) (adde x e y f)) := by
  obtain ⟨W0, hW0⟩ : ∃ W0, W0 = ((w.alloc (.cells #[.pointer (some ⟨q, 0, none⟩), .int .i64 e] 50)).alloc (.cells #[.pointer (some ⟨s, 0, none⟩), .int .i64 f] 50)).alloc (.cells #[.pointer none, .int .i64 0] 50) := ⟨_, rfl⟩
  obtain ⟨hb0, hx0, hy0, hx1, hs0⟩ := boxes3 w (.cells #[.pointer (some ⟨q, 0, none⟩), .int .i64 e] 50) (.cells #[.pointer (some ⟨s, 0, none⟩), .int .i64 f] 50) (.cells #[.pointer none, .int .i64 0] 50) W0 (by rw [hW0]; exact Below.refl _ _)
  have zx := hx.below hb0
  have zy := hy.below hb0
  have HS := Lib.hid (fun (W : World) (hb : Below W0.heap.size W0 W) => nsign (e := e) (zx.below hb))
  have HT := Lib.hid (fun (W : World) (hb : Below W0.heap.size W0 W) => nsign (e := f) (zy.below hb))
  have HB0 := Lib.hid hb0
  have HX0 := Lib.hid hx0
  have HY0 := Lib.hid hy0
  have HX1 := Lib.hid hx1
  have HW := Lib.hid hW0
  have HZX := Lib.hid zx
  have HZY := Lib.hid zy
  obtain ⟨c0, c1, _, _, l0⟩ := cellsN hx0
  obtain ⟨e0, e1, _, _, m0⟩ := cellsN hy0
  obtain ⟨d0, d1, f0, f1, l1⟩ := cellsN hx1
  have n0 : w.heap.size ≠ w.heap.size + 1 + 1 := by omega
  have n1 := Ne.symm n0
  -- what stays after a call that makes memory
  have stay := Lib.hid (fun (W : World) (hb : Below W0.heap.size W0 W) => (⟨cellsN ((hb.block _ l0).trans hx0), cellsN ((hb.block _ m0).trans hy0), cellsN ((hb.block _ l1).trans hx1), (hb.block _ l1).trans hx1, hb0.trans (hb.mono (Nat.le_trans (by omega) hs0))⟩ : _ ∧ _ ∧ _ ∧ _ ∧ Below w.heap.size w W))
  clear hx hy hb0 hx0 hx1 hy0 hW0 zx zy
  by_cases hx00 : x = 0
  · have es : sgn x = 0 := by rw [sgn_eq0]; exact hx00
    have ez : addz x e y f = y := by unfold addz; rw [if_pos hx00]
    have ee : adde x e y f = f := by unfold adde; rw [if_pos hx00]
    rw [ez, ee]
    rw [es] at HS
    clear es ez ee hx00
    go_enter Tryz.func45, Tryz.ntmps45
    go_upto_region 1 with fail
    rw [← HW.out]
    clear HW
    go_wp2_with fail
    refine (HS.out W0 (Below.refl _ _)).mono ?_
    rintro en w1 ⟨rfl, hb1⟩
    obtain ⟨⟨p0, p1, _, _, p2⟩, ⟨r0, r1, _, _, r2⟩, ⟨t0, t1, t2, t3, t4⟩, hx1, hbw⟩ := stay.out w1 hb1
    have HX2 := Lib.hid hx1
    have HB2 := Lib.hid hbw
    have HZ2 := Lib.hid (HZY.out.below hb1)
    clear hx1 hbw hb1
    go_wp2
    have hst := storedN (e := f) HX2.out HB2.out (by omega) HZ2.out
    exact bodyPost_ret (results_single rfl (.cell (w.heap.size + 1 + 1) 50 #[.pointer (some ⟨s, 0, none⟩), .int .i64 f] (0, 0) _ rfl hst.1 Tryz.underlying50 rfl sizeN .nil)) rfl ⟨_, rfl, hst.2.1, hst.2.2⟩
  · have es : ¬ sgn x = 0 := by rw [sgn_eq0]; exact hx00
    generalize sgn x = sx at HS es
    by_cases hy00 : y = 0
    · have et : sgn y = 0 := by rw [sgn_eq0]; exact hy00
      have ez : addz x e y f = x := by unfold addz; rw [if_neg hx00, if_pos hy00]
      have ee : adde x e y f = e := by unfold adde; rw [if_neg hx00, if_pos hy00]
      rw [ez, ee]
      rw [et] at HT
      clear et ez ee hx00 hy00
      go_enter Tryz.func45, Tryz.ntmps45
      go_upto_region 1 with fail
      rw [← HW.out]
      clear HW
      go_wp2_with fail
      refine (HS.out W0 (Below.refl _ _)).mono ?_
      rintro en w1 ⟨rfl, hb1⟩
      obtain ⟨⟨p0, p1, _, _, p2⟩, ⟨r0, r1, _, _, r2⟩, ⟨t0, t1, t2, t3, t4⟩, hx1, hbw⟩ := stay.out w1 hb1
      have HB1 := Lib.hid hb1
      clear hx1 hbw hb1
      go_wp2_with fail
      refine (HT.out w1 HB1.out).mono ?_
      rintro en w2 ⟨rfl, hb2⟩
      have hb12 := below_then HB1.out hb2
      clear p0 p1 p2 r0 r1 r2 t0 t1 t2 t3 t4 HB1 hb2
      obtain ⟨⟨p0, p1, _, _, p2⟩, ⟨r0, r1, _, _, r2⟩, ⟨t0, t1, t2, t3, t4⟩, hx1, hbw⟩ := stay.out w2 hb12
      have HX2 := Lib.hid hx1
      have HB2 := Lib.hid hbw
      have HZ2 := Lib.hid (HZX.out.below hb12)
      clear hx1 hbw hb12
      go_wp2
      have hst := storedN (e := e) HX2.out HB2.out (by omega) HZ2.out
      exact bodyPost_ret (results_single rfl (.cell (w.heap.size + 1 + 1) 50 #[.pointer (some ⟨q, 0, none⟩), .int .i64 e] (0, 0) _ rfl hst.1 Tryz.underlying50 rfl sizeN .nil)) rfl ⟨_, rfl, hst.2.1, hst.2.2⟩
    · have et : ¬ sgn y = 0 := by rw [sgn_eq0]; exact hy00
      generalize sgn y = sy at HT et
      have ez : addz x e y f = x * 2 ^ (e - min e f).toNat + y * 2 ^ (f - min e f).toNat := by unfold addz; rw [if_neg hx00, if_neg hy00]
      have ee : adde x e y f = min e f := by unfold adde; rw [if_neg hx00, if_neg hy00]
      rw [ez, ee]
      clear ez ee hx00 hy00
      obtain ⟨m, hm⟩ : ∃ m, m = min e f := ⟨_, rfl⟩
      obtain ⟨kx, hkx⟩ : ∃ k : Nat, k = (e - min e f).toNat := ⟨_, rfl⟩
      obtain ⟨ky, hky⟩ : ∃ k : Nat, k = (f - min e f).toNat := ⟨_, rfl⟩
      rw [← hkx, ← hky, ← hm]
      have bx : bl (x * 2 ^ kx).natAbs ≤ 200000000 := by
        rw [Int.natAbs_mul, show ((2 : Int) ^ kx).natAbs = 2 ^ kx by rw [Int.natAbs_pow]; rfl]
        have := bl_shift_le x.natAbs kx
        omega
      have by_ : bl (y * 2 ^ ky).natAbs ≤ 200000000 := by
        rw [Int.natAbs_mul, show ((2 : Int) ^ ky).natAbs = 2 ^ ky by rw [Int.natAbs_pow]; rfl]
        have := bl_shift_le y.natAbs ky
        omega
      have HA := Lib.hid (fun (W : World) (hb : Below W0.heap.size W0 W) => nat (e2 := m) (k := kx) (HZX.out.below hb) (e := e) (by omega) (by omega) (by omega))
      have HC := Lib.hid (fun (W : World) (hb : Below W0.heap.size W0 W) => nat (e2 := m) (k := ky) (HZY.out.below hb) (e := f) (by omega) (by omega) (by omega))
      have HP := Lib.hid (fun (W : World) (p g g4 : Nat) (hp : Blk W p) (hz : Z W g (x * 2 ^ kx)) (hz4 : Z W g4 (y * 2 ^ ky)) => Mj.add hp hz hz4 (by omega) (by omega))
      have HM := Lib.hid hm
      have HKX := Lib.hid hkx
      have HKY := Lib.hid hky
      generalize x * 2 ^ kx = xx at *
      generalize y * 2 ^ ky = yy at *
      have hmin : min e f = m := hm.symm
      clear hm hkx hky bx by_ hbx hby
      have hle : (e ≤ f ∧ e = m) ∨ (f < e ∧ f = m) := by omega
      clear hmin
      rcases hle with ⟨hle, rfl⟩ | ⟨hle, rfl⟩
      all_goals
       go_enter Tryz.func45, Tryz.ntmps45
       go_upto_region 1 with fail
       rw [← HW.out]
       clear HW
       go_wp2_with fail
       refine (HS.out W0 (Below.refl _ _)).mono ?_
       rintro en w1 ⟨rfl, hb1⟩
       obtain ⟨⟨p0, p1, _, _, p2⟩, ⟨r0, r1, _, _, r2⟩, ⟨t0, t1, t2, t3, t4⟩, hx1, hbw⟩ := stay.out w1 hb1
       have HB1 := Lib.hid hb1
       clear hx1 hbw hb1
       go_wp2_with fail
       refine (HT.out w1 HB1.out).mono ?_
       rintro en w2 ⟨rfl, hb2⟩
       have hb12 := below_then HB1.out hb2
       clear p0 p1 p2 r0 r1 r2 t0 t1 t2 t3 t4 HB1 hb2
       obtain ⟨⟨p0, p1, _, _, p2⟩, ⟨r0, r1, _, _, r2⟩, ⟨t0, t1, t2, t3, t4⟩, hx1, hbw⟩ := stay.out w2 hb12
       have HB2 := Lib.hid hb12
       clear hx1 hbw hb12
       have hs2 := HB2.out.size
       go_wp2_with fail
       all_goals
         go_region_held3 (fun w' => w'.cell? ⟨w.heap.size, 0, none⟩ = some (.pointer (some ⟨q, 0, none⟩)) ∧ w'.cell? ⟨w.heap.size, 1, none⟩ = some (.int .i64 e) ∧ w'.cell? ⟨w.heap.size + 1, 0, none⟩ = some (.pointer (some ⟨s, 0, none⟩)) ∧ w'.cell? ⟨w.heap.size + 1, 1, none⟩ = some (.int .i64 f)) (go_keep)
           (first
             | (go_at_call 84; refine (HA.out _ (by first | exact HB2.out.drew | exact (HB2.out.alloc hs2 _).drew | exact HB2.out.drew.alloc hs2 _)).mono ?_; rintro en w3 ⟨g, rfl, hz, hg, hb⟩; have hX := below_then (show Below W0.heap.size W0 _ by first | exact HB2.out.drew | exact (HB2.out.alloc hs2 _).drew | exact HB2.out.drew.alloc hs2 _) hb; have hs3 := hX.size; obtain ⟨⟨p0, p1, _, _, p2⟩, ⟨r0, r1, _, _, r2⟩, ⟨t0, t1, t2, t3, t4⟩, hx1, hbw⟩ := stay.out w3 hX; have HX3 := Lib.hid hX; have HZ := Lib.hid hz; have HK3 := Lib.hid (fun p (hp : Blk _ p) => hp.below hb); clear hz hg hb hX hx1 hbw HA)
             | (go_at_call 84; refine (HC.out _ (by first | exact HX3.out | exact HX3.out.alloc hs3 _)).mono ?_; rintro en w4 ⟨g4, rfl, hz, hg, hb⟩; have hX := below_then (show Below W0.heap.size W0 _ by first | exact HX3.out | exact HX3.out.alloc hs3 _) hb; have hs4 := hX.size; obtain ⟨⟨p0, p1, _, _, p2⟩, ⟨r0, r1, _, _, r2⟩, ⟨t0, t1, t2, t3, t4⟩, hx1, hbw⟩ := stay.out w4 hX; have HX4 := Lib.hid hX; have HZ1 := Lib.hid (show Z w4 g xx from (by first | exact HZ.out.below hb | exact (HZ.out.below (Ma.waq _ _)).below hb)); have HZ2 := Lib.hid hz; have HK4 := Lib.hid (fun p (hp : Blk _ p) => hp.below hb); clear hz hg hb hX hx1 hbw HC HZ)
             | (go_at_call 79; refine (HP.out _ _ _ _ (by first | exact HK4.out _ (HK3.out _ ((Z.new _).blk.below (Below.refl _ _).drew)) | exact HK4.out _ (HK3.out _ (Z.new _).blk) | exact HK4.out _ (Z.new _).blk | exact (Z.new _).blk) (by first | exact HZ1.out | exact HZ1.out.below (Ma.waq _ _)) (by first | exact HZ2.out | exact HZ2.out.below (Ma.waq _ _))).mono ?_; rintro en w5 ⟨rfl, hz, hg⟩; have hX := news_below (W0 := W0) (by first | exact HX4.out | exact HX4.out.alloc hs4 _) (by first | exact hs2 | exact hs3 | exact hs4 | (simp; omega)) hg; obtain ⟨⟨p0, p1, _, _, p2⟩, ⟨r0, r1, _, _, r2⟩, ⟨t0, t1, t2, t3, t4⟩, hx1, hbw⟩ := stay.out w5 hX; have HX5 := Lib.hid hx1; have HB5 := Lib.hid hbw; have HZ5 := Lib.hid hz; clear hz hg hX hx1 hbw HP))
         all_goals go_wp2
         all_goals
           first
             | (have hst := storedN (e := e) HX5.out HB5.out (by omega) HZ5.out
                exact bodyPost_ret (results_single rfl (.cell (w.heap.size + 1 + 1) 50 #[.pointer (some ⟨_, 0, none⟩), .int .i64 e] (0, 0) _ rfl hst.1 Tryz.underlying50 rfl sizeN .nil)) rfl ⟨_, rfl, hst.2.1, hst.2.2⟩)
             | (have hst := storedN (e := f) HX5.out HB5.out (by omega) HZ5.out
                exact bodyPost_ret (results_single rfl (.cell (w.heap.size + 1 + 1) 50 #[.pointer (some ⟨_, 0, none⟩), .int .i64 f] (0, 0) _ rfl hst.1 Tryz.underlying50 rfl sizeN .nil)) rfl ⟨_, rfl, hst.2.1, hst.2.2⟩)
end Go.Proofs.YtjggbalhpflbbaaGreat.Nc
end
section
namespace Go.Proofs.YtjggbalhpflbbaaGreat.Qc
open Go.RowKit Go.Proofs.YtjggbalhpflbbaaGreatW.PrintWords Go.Proofs.YtjggbalhpflbbaaGreat.PW Go.Proofs.YtjggbalhpflbbaaGreat.Pb Go.Proofs.YtjggbalhpflbbaaGreat.Pc Go.Proofs.YtjggbalhpflbbaaGreat.Pm Go.Proofs.YtjggbalhpflbbaaGreat.Pw Go.Proofs.YtjggbalhpflbbaaGreat.Px Go.Proofs.YtjggbalhpflbbaaGreat.Pt Go.Proofs.YtjggbalhpflbbaaGreat.Pz Go.Proofs.YtjggbalhpflbbaaGreat.Pzs Go.Proofs.YtjggbalhpflbbaaGreat.Ss Go.Proofs.YtjggbalhpflbbaaGreat.St Go.Proofs.YtjggbalhpflbbaaGreat.Sm Go.Proofs.YtjggbalhpflbbaaGreat.Qa Go.Proofs.YtjggbalhpflbbaaGreat.Qb Go.Proofs.YtjggbalhpflbbaaGreat.Mu Go.Proofs.YtjggbalhpflbbaaGreat.Nc Dg
set_option linter.unusedVariables false
set_option linter.unusedSimpArgs false
theorem bl_two (z : Int) (k : Nat) : bl (z * 2 ^ k).natAbs ≤ bl z.natAbs + k := by
  rw [Int.natAbs_mul, show ((2 : Int) ^ k).natAbs = 2 ^ k by rw [Int.natAbs_pow]; rfl]
  exact bl_shift_le _ _
theorem mn_min (a b : Int) : mn a b = min a b := by
  unfold mn
  split <;> omega
theorem saddD (x y e f : Int) (hx : bl x.natAbs ≤ 100000000) (hy : bl y.natAbs ≤ 100000000) (h1 : -1000000 ≤ e) (h2 : e ≤ 1000000) (h3 : -1000000 ≤ f) (h4 : f ≤ 1000000) :
    Ev (fun k => spec_l03Add.f k (sgn x) (L x.natAbs) e (sgn y) (L y.natAbs) f) (dy (addz x e y f) (adde x e y f)) := by
  unfold spec_l03Add.f addz adde
  by_cases hx0 : x = 0
  · rw [if_pos hx0, if_pos hx0]
    exact ifp (sgn_zero.2 hx0) (Ev.bind (f := fun k t => _) (smakeD y f (by omega) (by omega) (by omega)) (ev_of fun _ => rfl))
  · rw [if_neg hx0, if_neg hx0]
    refine ifn (fun h => hx0 (sgn_zero.1 h)) ?_
    by_cases hy0 : y = 0
    · rw [if_pos hy0, if_pos hy0]
      exact ifp (sgn_zero.2 hy0) (Ev.bind (f := fun k t => _) (smakeD x e (by omega) (by omega) (by omega)) (ev_of fun _ => rfl))
    · rw [if_neg hy0, if_neg hy0]
      refine ifn (fun h => hy0 (sgn_zero.1 h)) ?_
      rw [mn_min, wrapZ (e - min e f) (by omega) (by omega), wrapZ (f - min e f) (by omega) (by omega)]
      have ea : e - min e f = ((e - min e f).toNat : Nat) := by omega
      have eb : f - min e f = ((f - min e f).toNat : Nat) := by omega
      have sa := sleft x (e - min e f).toNat (by omega) (by omega)
      have sb := sleft y (f - min e f).toNat (by omega) (by omega)
      rw [← ea] at sa
      rw [← eb] at sb
      have ba := bl_two x (e - min e f).toNat
      have bb := bl_two y (f - min e f).toNat
      have bc := bl_add_natAbs (x * 2 ^ (e - min e f).toNat) (y * 2 ^ (f - min e f).toNat)
      refine Ev.bind (f := fun k t => _) sa (Ev.bind (f := fun k t => _) sb (Ev.bind (f := fun k t => _) (sadd _ _ (by omega) (by omega)) ?_))
      exact Ev.bind (f := fun k t => _) (smakeD _ (min e f) (by omega) (by omega) (by omega)) (ev_of fun _ => rfl)
end Go.Proofs.YtjggbalhpflbbaaGreat.Qc
end
section
set_option linter.unusedVariables false
set_option linter.unusedSimpArgs false
namespace Go.Proofs.YtjggbalhpflbbaaGreat.Sl
open Go.RowKit Go.Proofs.YtjggbalhpflbbaaGreatW.PrintWords Go.Proofs.YtjggbalhpflbbaaGreatW.PrintMore Go.Proofs.YtjggbalhpflbbaaGreat.PW Go.Proofs.YtjggbalhpflbbaaGreat.Pb Go.Proofs.YtjggbalhpflbbaaGreat.Pc Go.Proofs.YtjggbalhpflbbaaGreat.Pm Go.Proofs.YtjggbalhpflbbaaGreat.Pw Go.Proofs.YtjggbalhpflbbaaGreat.Ps Go.Proofs.YtjggbalhpflbbaaGreat.Px Go.Proofs.YtjggbalhpflbbaaGreat.Pv Go.Proofs.YtjggbalhpflbbaaGreat.Pt Go.Proofs.YtjggbalhpflbbaaGreat.Pz Go.Proofs.YtjggbalhpflbbaaGreat.Ss Go.Proofs.YtjggbalhpflbbaaGreat.St Go.Proofs.YtjggbalhpflbbaaGreat.Qa Go.Proofs.YtjggbalhpflbbaaGreat.Mu Go.Proofs.YtjggbalhpflbbaaGreat.Re Go.Proofs.YtjggbalhpflbbaaGreat.Rf Dg
theorem wrap_sq (z : Int) : wrap64 (sgn z * sgn z) = sgn (z.natAbs : Int) := by
  unfold sgn
  split
  · rw [if_neg (by omega), if_neg (by omega)]; exact (wrapZ _ (by omega) (by omega)).trans (by decide)
  · split
    · rw [if_neg (by omega), if_pos (by omega)]; exact (wrapZ _ (by omega) (by omega)).trans (by decide)
    · rw [if_neg (by omega), if_neg (by omega)]; exact (wrapZ _ (by omega) (by omega)).trans (by decide)
theorem sabs (z : Int) (hz : bl z.natAbs ≤ 1000000) : Ev (fun k => spec_l02Abs.f k (sgn z) (L z.natAbs)) (sgn (z.natAbs : Int), L z.natAbs) := by
  unfold spec_l02Abs.f
  rw [wrap_sq]
  have hs := smake (sgn (z.natAbs : Int)) (L z.natAbs) (L_dig _) (Nat.le_trans (L_len _) (by omega))
  rw [L_val] at hs
  rw [show ((z.natAbs : Nat) : Int).toNat = z.natAbs by omega] at hs
  have h2 := smk_sgn (z.natAbs : Int)
  rw [Int.natAbs_natCast] at h2
  rw [h2] at hs
  exact Ev.bind (f := fun k t => _) hs (ev_of fun _ => rfl)
end Go.Proofs.YtjggbalhpflbbaaGreat.Sl
end
section
set_option linter.unusedVariables false
set_option linter.unusedSimpArgs false
namespace Go.Proofs.YtjggbalhpflbbaaGreat.Ha
open Go.RowKit Go.Proofs.YtjggbalhpflbbaaGreatW.PrintWords Go.Proofs.YtjggbalhpflbbaaGreatW.PrintLast Go.Proofs.YtjggbalhpflbbaaGreatW.PrintMore Go.Proofs.YtjggbalhpflbbaaGreat.PW Go.Proofs.YtjggbalhpflbbaaGreat.Ma Go.Proofs.YtjggbalhpflbbaaGreat.Mh Go.Proofs.YtjggbalhpflbbaaGreat.Mu Go.Proofs.YtjggbalhpflbbaaGreat.Mn
theorem threeW (w : World) (s0 : Int) (A0 : Option Addr) (n0 c0 : Nat) (s1 : Int) (A1 : Option Addr) (n1 c1 : Nat) {W0 : World} (hW0 : W0 = ((w.alloc (.cells #[.int .i64 s0, .slice A0 n0 c0] 28)).alloc (.cells #[.int .i64 s1, .slice A1 n1 c1] 28)).alloc (.cells #[.int .i64 0, .slice none 0 0] 28)) :
    ∀ W, Below W0.heap.size W0 W → ((W.cell? ⟨w.heap.size, 0, none⟩ = some (.int .i64 s0) ∧ W.cell? ⟨w.heap.size, 1, none⟩ = some (.slice A0 n0 c0)) ∧ (W.cell? ⟨w.heap.size + 1, 0, none⟩ = some (.int .i64 s1) ∧ W.cell? ⟨w.heap.size + 1, 1, none⟩ = some (.slice A1 n1 c1))) ∧
      (W.cell? ⟨w.heap.size + 1 + 1, 0, none⟩ = some (.int .i64 0) ∧ W.cell? ⟨w.heap.size + 1 + 1, 1, none⟩ = some (.slice none 0 0) ∧ W.frozen? ⟨w.heap.size + 1 + 1, 0, none⟩ = false ∧ W.frozen? ⟨w.heap.size + 1 + 1, 1, none⟩ = false) ∧ (w.heap.size < W.heap.size ∧ w.heap.size + 1 < W.heap.size ∧ w.heap.size + 1 + 1 < W.heap.size) ∧ W.heap[w.heap.size + 1 + 1]? = some (.cells #[.int .i64 0, .slice none 0 0] 28 (0, 0)) ∧ Below w.heap.size w W := fun W hb => by
  have hs : W0.heap.size = w.heap.size + 3 := by rw [hW0, alloc_size, alloc_size, alloc_size]
  obtain ⟨h1, x0, x1, y0, y1, ⟨_, i0, i1, i2⟩, hx⟩ := threeBoxes w s0 A0 n0 c0 s1 A1 n1 c1 W (by rw [← hs, ← hW0]; exact hb)
  obtain ⟨e0, e1, f0, f1⟩ := cellsOf hx
  exact ⟨⟨⟨x0, x1⟩, y0, y1⟩, ⟨e0, e1, f0, f1⟩, ⟨i0, i1, i2⟩, hx, h1⟩
set_option maxRecDepth 20000 in
set_option maxHeartbeats 1600000 in
theorem handAdd2 (k : Nat) (a0_0 : Int) (A0_1 : Option Addr) (c0_1 : Nat) (l0_1 : List Int) (a1_0 : Int) (A1_1 : Option Addr) (c1_1 : Nat) (l1_1 : List Int) (r1 : Int) (r2 : List Int) (w : World) (hr0_1 : Kd.C (Kd.int .i64) w A0_1 l0_1.length l0_1) (hc0_1 : l0_1.length ≤ c0_1) (hr1_1 : Kd.C (Kd.int .i64) w A1_1 l1_1.length l1_1) (hc1_1 : l1_1.length ≤ c1_1) (h : spec_l02Add.f k a0_0 l0_1 a1_0 l1_1 = some (r1, r2)) :
    Calls Tryz.prog 59 #[.agg #[.int .i64 a0_0, .slice A0_1 l0_1.length c0_1], .agg #[.int .i64 a1_0, .slice A1_1 l1_1.length c1_1]] w fun e w' => ∃ v1_ : Value, e = .returned (.agg #[.int .i64 r1, v1_]) ∧ Kd.R (Kd.int .i64) 2 w' w.heap.size (fun _ => True) v1_ r2 ∧ Below w.heap.size w w' := by
  unfold spec_l02Add.f at h
  obtain ⟨W0, hW0⟩ : ∃ W0, W0 = ((w.alloc (.cells #[.int .i64 a0_0, .slice A0_1 l0_1.length c0_1] 28)).alloc (.cells #[.int .i64 a1_0, .slice A1_1 l1_1.length c1_1] 28)).alloc (.cells #[.int .i64 0, .slice none 0 0] 28) := ⟨_, rfl⟩
  have stay0 := threeW w a0_0 A0_1 l0_1.length c0_1 a1_0 A1_1 l1_1.length c1_1 hW0
  have HCa := Lib.hid (fun (W : World) (hb : Below W0.heap.size W0 W) => C_at hr0_1 (stay0 W hb).2.2.2.2)
  have HCb := Lib.hid (fun (W : World) (hb : Below W0.heap.size W0 W) => C_at hr1_1 (stay0 W hb).2.2.2.2)
  have HLa := Lib.hid hc0_1
  have HLb := Lib.hid hc1_1
  have stay := Lib.hid stay0
  have HW := Lib.hid hW0
  clear hW0 stay0 hr0_1 hr1_1 hc0_1 hc1_1
  by_cases h0 : a0_0 = 0
  · rw [if_pos h0] at h
    obtain ⟨⟨q1, q2⟩, hm, hq⟩ := Option.bind_eq_some_iff.1 h
    obtain ⟨rfl, rfl⟩ := Prod.mk.inj (Option.some.inj hq)
    have HMK := Lib.hid (spec_l02Make.calls k a1_0 A1_1 c1_1 l1_1 _ _ W0 (HCb.out W0 (Below.refl _ _)) HLb.out hm)
    have HZ0 := Lib.hid (stay.out W0 (Below.refl _ _)).2.2.1.1
    subst h0
    clear h hq hm
    generalize q1 = r1 at *
    generalize q2 = r2 at *
    go_enter Tryz.func59, Tryz.ntmps59
    go_upto_region 1 with fail
    rw [← HW.out]
    clear HW
    obtain ⟨⟨⟨c0, c1⟩, d0, d1⟩, ⟨e0, e1, f0, f1⟩, ⟨z0, z1, z2⟩, hx, hbw⟩ := stay.out W0 (Below.refl _ _)
    clear hx hbw
    have n1a : w.heap.size ≠ w.heap.size + 1 + 1 := by omega
    have n1b := Ne.symm n1a
    go_wp2_with fail
    refine HMK.out.mono ?_
    rintro en w1 ⟨u, rfl, hR, hb⟩
    obtain ⟨A, c, rfl⟩ := Kd.R_slice hR
    clear c0 c1 d0 d1 e0 e1 f0 f1 z0 z1 z2
    obtain ⟨⟨⟨c0, c1⟩, d0, d1⟩, ⟨e0, e1, f0, f1⟩, ⟨z0, z1, z2⟩, hx, hbw⟩ := stay.out w1 hb
    have HX := Lib.hid hx
    have HB := Lib.hid hbw
    have HR := Lib.hid (Kd.R_lower (base' := w.heap.size) hR (by have := HZ0.out; omega))
    clear hR hb hx hbw
    go_wp2
    have hst := storedW (s := r1) (u := .slice A r2.length c) HX.out HB.out (by omega) HR.out
    exact bodyPost_ret (results_single rfl (.cell (w.heap.size + 1 + 1) 28 #[.int .i64 r1, .slice A r2.length c] (0, 0) _ rfl hst.1 Tryz.underlying28 rfl sizeW .nil)) rfl ⟨_, rfl, hst.2.1, hst.2.2⟩
  rw [if_neg h0] at h
  have h0b : (a0_0 == 0) = false := by simpa using h0
  by_cases h1 : a1_0 = 0
  · rw [if_pos h1] at h
    obtain ⟨⟨q1, q2⟩, hm, hq⟩ := Option.bind_eq_some_iff.1 h
    obtain ⟨rfl, rfl⟩ := Prod.mk.inj (Option.some.inj hq)
    have HMK := Lib.hid (spec_l02Make.calls k a0_0 A0_1 c0_1 l0_1 _ _ W0 (HCa.out W0 (Below.refl _ _)) HLa.out hm)
    have HZ0 := Lib.hid (stay.out W0 (Below.refl _ _)).2.2.1.1
    subst h1
    clear h hq hm
    generalize q1 = r1 at *
    generalize q2 = r2 at *
    go_enter Tryz.func59, Tryz.ntmps59
    go_upto_region 1 with fail
    rw [← HW.out]
    clear HW
    obtain ⟨⟨⟨c0, c1⟩, d0, d1⟩, ⟨e0, e1, f0, f1⟩, ⟨z0, z1, z2⟩, hx, hbw⟩ := stay.out W0 (Below.refl _ _)
    clear hx hbw
    have n1a : w.heap.size ≠ w.heap.size + 1 + 1 := by omega
    have n1b := Ne.symm n1a
    go_wp2_with fail
    refine HMK.out.mono ?_
    rintro en w1 ⟨u, rfl, hR, hb⟩
    obtain ⟨A, c, rfl⟩ := Kd.R_slice hR
    clear c0 c1 d0 d1 e0 e1 f0 f1 z0 z1 z2
    obtain ⟨⟨⟨c0, c1⟩, d0, d1⟩, ⟨e0, e1, f0, f1⟩, ⟨z0, z1, z2⟩, hx, hbw⟩ := stay.out w1 hb
    have HX := Lib.hid hx
    have HB := Lib.hid hbw
    have HR := Lib.hid (Kd.R_lower (base' := w.heap.size) hR (by have := HZ0.out; omega))
    clear hR hb hx hbw
    go_wp2
    have hst := storedW (s := r1) (u := .slice A r2.length c) HX.out HB.out (by omega) HR.out
    exact bodyPost_ret (results_single rfl (.cell (w.heap.size + 1 + 1) 28 #[.int .i64 r1, .slice A r2.length c] (0, 0) _ rfl hst.1 Tryz.underlying28 rfl sizeW .nil)) rfl ⟨_, rfl, hst.2.1, hst.2.2⟩
  rw [if_neg h1] at h
  have h1b : (a1_0 == 0) = false := by simpa using h1
  by_cases h2 : a0_0 = a1_0
  · rw [if_pos h2] at h
    obtain ⟨p, hp, h⟩ := Option.bind_eq_some_iff.1 h
    obtain ⟨⟨q1, q2⟩, hm, hq⟩ := Option.bind_eq_some_iff.1 h
    obtain ⟨rfl, rfl⟩ := Prod.mk.inj (Option.some.inj hq)
    have HOP := Lib.hid (fun (W : World) (hb : Below W0.heap.size W0 W) => spec_l02Plus.calls k A0_1 c0_1 l0_1 A1_1 c1_1 l1_1 p W (HCa.out W hb) HLa.out (HCb.out W hb) HLb.out hp)
    have HMK := Lib.hid (fun (W : World) (A : Option Addr) (c : Nat) (hA : (Kd.int .i64).C W A p.length p) (hc : p.length ≤ c) => spec_l02Make.calls k a0_0 A c p _ _ W hA hc hm)
    have HBc := Lib.hid (Below.refl W0.heap.size W0)
    have h2b : (a0_0 == a1_0) = true := by simpa using h2
    subst h2
    clear h hq hm hp
    generalize q1 = r1 at *
    generalize q2 = r2 at *
    go_enter Tryz.func59, Tryz.ntmps59
    go_upto_region 1 with fail
    rw [← HW.out]
    clear HW
    obtain ⟨⟨⟨c0, c1⟩, d0, d1⟩, ⟨e0, e1, f0, f1⟩, ⟨z0, z1, z2⟩, hx, hbw⟩ := stay.out W0 (Below.refl _ _)
    clear hx hbw
    have n1a : w.heap.size ≠ w.heap.size + 1 + 1 := by omega
    have n1b := Ne.symm n1a
    go_upto_region 6 with fail
    go_region_held3 (fun w' => (w'.cell? ⟨w.heap.size, 0, none⟩ = some (.int .i64 a0_0) ∧ w'.cell? ⟨w.heap.size, 1, none⟩ = some (.slice A0_1 l0_1.length c0_1)) ∧ w'.cell? ⟨w.heap.size + 1, 0, none⟩ = some (.int .i64 a0_0) ∧ w'.cell? ⟨w.heap.size + 1, 1, none⟩ = some (.slice A1_1 l1_1.length c1_1)) (go_keep)
      (first
        | (go_at_call 90; refine (HOP.out _ (by first | exact HBc.out | exact HBc.out.drew)).mono ?_; rintro en w2 ⟨u, rfl, hR, hb⟩; obtain ⟨A2, c2, rfl⟩ := Kd.R_slice hR; have hX := below_then (show Below W0.heap.size W0 _ by first | exact HBc.out | exact HBc.out.drew) hb; obtain ⟨⟨⟨c0, c1⟩, d0, d1⟩, ⟨e0, e1, f0, f1⟩, ⟨z0, z1, z2⟩, hx, hbw⟩ := stay.out w2 hX; have HX2 := Lib.hid hX; have HRR := Lib.hid (Kd.R_reads' hR); clear hR hb hX hx hbw)
        | (go_at_call 65; refine (HMK.out _ _ _ HRR.out.2.2 HRR.out.2.1).mono ?_; rintro en w3 ⟨u3, rfl, hR, hb⟩; obtain ⟨A, c, rfl⟩ := Kd.R_slice hR; have hX := below_then HX2.out hb; have HR := Lib.hid (Kd.R_lower (base' := w.heap.size) hR (by omega)); obtain ⟨⟨⟨c0, c1⟩, d0, d1⟩, ⟨e0, e1, f0, f1⟩, ⟨z0, z1, z2⟩, hx, hbw⟩ := stay.out w3 hX; have HX := Lib.hid hx; have HB := Lib.hid hbw; clear hR hb hX hx hbw))
    all_goals go_wp2
    all_goals
      have hst := storedW (s := r1) (u := .slice A r2.length c) HX.out HB.out (by omega) HR.out
      exact bodyPost_ret (results_single rfl (.cell (w.heap.size + 1 + 1) 28 #[.int .i64 r1, .slice A r2.length c] (0, 0) _ rfl hst.1 Tryz.underlying28 rfl sizeW .nil)) rfl ⟨_, rfl, hst.2.1, hst.2.2⟩
  rw [if_neg h2] at h
  have h2b : (a0_0 == a1_0) = false := by simpa using h2
  obtain ⟨q, hcm, h⟩ := Option.bind_eq_some_iff.1 h
  have HCM := Lib.hid (fun (W : World) (hb : Below W0.heap.size W0 W) => spec_l02CompareLimbs.calls k A0_1 c0_1 l0_1 A1_1 c1_1 l1_1 q W (HCa.out W hb) HLa.out (HCb.out W hb) HLb.out hcm)
  clear hcm
  by_cases h3 : q ≥ 0
  · rw [if_pos h3] at h
    obtain ⟨p, hp, h⟩ := Option.bind_eq_some_iff.1 h
    obtain ⟨⟨q1, q2⟩, hm, hq⟩ := Option.bind_eq_some_iff.1 h
    obtain ⟨rfl, rfl⟩ := Prod.mk.inj (Option.some.inj hq)
    have HOP := Lib.hid (fun (W : World) (hb : Below W0.heap.size W0 W) => spec_l02Minus.calls k A0_1 c0_1 l0_1 A1_1 c1_1 l1_1 p W (HCa.out W hb) HLa.out (HCb.out W hb) HLb.out hp)
    have HMK := Lib.hid (fun (W : World) (A : Option Addr) (c : Nat) (hA : (Kd.int .i64).C W A p.length p) (hc : p.length ≤ c) => spec_l02Make.calls k a0_0 A c p _ _ W hA hc hm)
    clear h hq hm hp
    generalize q1 = r1 at *
    generalize q2 = r2 at *
    go_enter Tryz.func59, Tryz.ntmps59
    go_upto_region 1 with fail
    rw [← HW.out]
    clear HW
    obtain ⟨⟨⟨c0, c1⟩, d0, d1⟩, ⟨e0, e1, f0, f1⟩, ⟨z0, z1, z2⟩, hx, hbw⟩ := stay.out W0 (Below.refl _ _)
    clear hx hbw
    have n1a : w.heap.size ≠ w.heap.size + 1 + 1 := by omega
    have n1b := Ne.symm n1a
    go_wp2_with fail
    refine (HCM.out _ (Below.refl _ _)).mono ?_
    rintro en w1 ⟨rfl, hd⟩
    have hb := hd.below
    have HBc := Lib.hid hb
    clear hd c0 c1 d0 d1 e0 e1 f0 f1 z0 z1 z2
    obtain ⟨⟨⟨c0, c1⟩, d0, d1⟩, ⟨e0, e1, f0, f1⟩, ⟨z0, z1, z2⟩, hx, hbw⟩ := stay.out w1 hb
    clear hb hx hbw HCM
    go_upto_region 8 with fail
    go_region_held3 (fun w' => (w'.cell? ⟨w.heap.size, 0, none⟩ = some (.int .i64 a0_0) ∧ w'.cell? ⟨w.heap.size, 1, none⟩ = some (.slice A0_1 l0_1.length c0_1)) ∧ w'.cell? ⟨w.heap.size + 1, 0, none⟩ = some (.int .i64 a1_0) ∧ w'.cell? ⟨w.heap.size + 1, 1, none⟩ = some (.slice A1_1 l1_1.length c1_1)) (go_keep)
      (first
        | (go_at_call 92; refine (HOP.out _ (by first | exact HBc.out | exact HBc.out.drew)).mono ?_; rintro en w2 ⟨u, rfl, hR, hb⟩; obtain ⟨A2, c2, rfl⟩ := Kd.R_slice hR; have hX := below_then (show Below W0.heap.size W0 _ by first | exact HBc.out | exact HBc.out.drew) hb; obtain ⟨⟨⟨c0, c1⟩, d0, d1⟩, ⟨e0, e1, f0, f1⟩, ⟨z0, z1, z2⟩, hx, hbw⟩ := stay.out w2 hX; have HX2 := Lib.hid hX; have HRR := Lib.hid (Kd.R_reads' hR); clear hR hb hX hx hbw)
        | (go_at_call 65; refine (HMK.out _ _ _ HRR.out.2.2 HRR.out.2.1).mono ?_; rintro en w3 ⟨u3, rfl, hR, hb⟩; obtain ⟨A, c, rfl⟩ := Kd.R_slice hR; have hX := below_then HX2.out hb; have HR := Lib.hid (Kd.R_lower (base' := w.heap.size) hR (by omega)); obtain ⟨⟨⟨c0, c1⟩, d0, d1⟩, ⟨e0, e1, f0, f1⟩, ⟨z0, z1, z2⟩, hx, hbw⟩ := stay.out w3 hX; have HX := Lib.hid hx; have HB := Lib.hid hbw; clear hR hb hX hx hbw))
    all_goals go_wp2
    all_goals
      have hst := storedW (s := r1) (u := .slice A r2.length c) HX.out HB.out (by omega) HR.out
      exact bodyPost_ret (results_single rfl (.cell (w.heap.size + 1 + 1) 28 #[.int .i64 r1, .slice A r2.length c] (0, 0) _ rfl hst.1 Tryz.underlying28 rfl sizeW .nil)) rfl ⟨_, rfl, hst.2.1, hst.2.2⟩
  · rw [if_neg h3] at h
    obtain ⟨p, hp, h⟩ := Option.bind_eq_some_iff.1 h
    obtain ⟨⟨q1, q2⟩, hm, hq⟩ := Option.bind_eq_some_iff.1 h
    obtain ⟨rfl, rfl⟩ := Prod.mk.inj (Option.some.inj hq)
    have HOP := Lib.hid (fun (W : World) (hb : Below W0.heap.size W0 W) => spec_l02Minus.calls k A1_1 c1_1 l1_1 A0_1 c0_1 l0_1 p W (HCb.out W hb) HLb.out (HCa.out W hb) HLa.out hp)
    have HMK := Lib.hid (fun (W : World) (A : Option Addr) (c : Nat) (hA : (Kd.int .i64).C W A p.length p) (hc : p.length ≤ c) => spec_l02Make.calls k a1_0 A c p _ _ W hA hc hm)
    clear h hq hm hp
    generalize q1 = r1 at *
    generalize q2 = r2 at *
    go_enter Tryz.func59, Tryz.ntmps59
    go_upto_region 1 with fail
    rw [← HW.out]
    clear HW
    obtain ⟨⟨⟨c0, c1⟩, d0, d1⟩, ⟨e0, e1, f0, f1⟩, ⟨z0, z1, z2⟩, hx, hbw⟩ := stay.out W0 (Below.refl _ _)
    clear hx hbw
    have n1a : w.heap.size ≠ w.heap.size + 1 + 1 := by omega
    have n1b := Ne.symm n1a
    go_wp2_with fail
    refine (HCM.out _ (Below.refl _ _)).mono ?_
    rintro en w1 ⟨rfl, hd⟩
    have hb := hd.below
    have HBc := Lib.hid hb
    clear hd c0 c1 d0 d1 e0 e1 f0 f1 z0 z1 z2
    obtain ⟨⟨⟨c0, c1⟩, d0, d1⟩, ⟨e0, e1, f0, f1⟩, ⟨z0, z1, z2⟩, hx, hbw⟩ := stay.out w1 hb
    clear hb hx hbw HCM
    go_upto_region 9 with fail
    go_region_held3 (fun w' => (w'.cell? ⟨w.heap.size, 0, none⟩ = some (.int .i64 a0_0) ∧ w'.cell? ⟨w.heap.size, 1, none⟩ = some (.slice A0_1 l0_1.length c0_1)) ∧ w'.cell? ⟨w.heap.size + 1, 0, none⟩ = some (.int .i64 a1_0) ∧ w'.cell? ⟨w.heap.size + 1, 1, none⟩ = some (.slice A1_1 l1_1.length c1_1)) (go_keep)
      (first
        | (go_at_call 92; refine (HOP.out _ (by first | exact HBc.out | exact HBc.out.drew)).mono ?_; rintro en w2 ⟨u, rfl, hR, hb⟩; obtain ⟨A2, c2, rfl⟩ := Kd.R_slice hR; have hX := below_then (show Below W0.heap.size W0 _ by first | exact HBc.out | exact HBc.out.drew) hb; obtain ⟨⟨⟨c0, c1⟩, d0, d1⟩, ⟨e0, e1, f0, f1⟩, ⟨z0, z1, z2⟩, hx, hbw⟩ := stay.out w2 hX; have HX2 := Lib.hid hX; have HRR := Lib.hid (Kd.R_reads' hR); clear hR hb hX hx hbw)
        | (go_at_call 65; refine (HMK.out _ _ _ HRR.out.2.2 HRR.out.2.1).mono ?_; rintro en w3 ⟨u3, rfl, hR, hb⟩; obtain ⟨A, c, rfl⟩ := Kd.R_slice hR; have hX := below_then HX2.out hb; have HR := Lib.hid (Kd.R_lower (base' := w.heap.size) hR (by omega)); obtain ⟨⟨⟨c0, c1⟩, d0, d1⟩, ⟨e0, e1, f0, f1⟩, ⟨z0, z1, z2⟩, hx, hbw⟩ := stay.out w3 hX; have HX := Lib.hid hx; have HB := Lib.hid hbw; clear hR hb hX hx hbw))
    all_goals go_wp2
    all_goals
      have hst := storedW (s := r1) (u := .slice A r2.length c) HX.out HB.out (by omega) HR.out
      exact bodyPost_ret (results_single rfl (.cell (w.heap.size + 1 + 1) 28 #[.int .i64 r1, .slice A r2.length c] (0, 0) _ rfl hst.1 Tryz.underlying28 rfl sizeW .nil)) rfl ⟨_, rfl, hst.2.1, hst.2.2⟩
end Go.Proofs.YtjggbalhpflbbaaGreat.Ha
end
section
set_option linter.unusedVariables false
set_option linter.unusedSimpArgs false
namespace Go.Proofs.YtjggbalhpflbbaaGreat.Hs
open Go.RowKit Go.Proofs.YtjggbalhpflbbaaGreatW.PrintWords Go.Proofs.YtjggbalhpflbbaaGreat.Ma Go.Proofs.YtjggbalhpflbbaaGreat.Mb Go.Proofs.YtjggbalhpflbbaaGreat.Mc Go.Proofs.YtjggbalhpflbbaaGreat.Mu Dg
def Hs (w W : World) (l : List (Nat × Int)) : Prop := Below w.heap.size w W ∧ (l.map Prod.fst).Nodup ∧ ∀ x ∈ l, Z W x.1 x.2 ∧ w.heap.size ≤ x.1
theorem Hs.nil (w : World) : Hs w w [] := ⟨Below.refl _ _, .nil, fun x h => nomatch h⟩
theorem Hs.get {w W : World} {l : List (Nat × Int)} {p : Nat} {v : Int} (h : Hs w W l) (hm : (p, v) ∈ l) : Z W p v := (h.2.2 _ hm).1
theorem Hs.below {w W W' : World} {l : List (Nat × Int)} (h : Hs w W l) (hb : Below W.heap.size W W') : Hs w W' l :=
  ⟨below_then h.1 hb, h.2.1, fun x hx => ⟨(h.2.2 x hx).1.below hb, (h.2.2 x hx).2⟩⟩
theorem Hs.news {w W W' : World} {l : List (Nat × Int)} {g : Nat} {z : Int} (h : Hs w W l) (hz : Z W' g z) (hg : W.heap.size ≤ g) (hb : Below W.heap.size W W') : Hs w W' ((g, z) :: l) := by
  have h' := h.below hb
  refine ⟨h'.1, List.nodup_cons.2 ⟨fun hm => ?_, h'.2.1⟩, fun x hx => ?_⟩
  · obtain ⟨x, hx, he⟩ := List.mem_map.1 hm
    have := (h.2.2 x hx).1.lt
    omega
  · rcases List.mem_cons.1 hx with rfl | hx
    · have := h.1.size
      exact ⟨hz, by show w.heap.size ≤ g; omega⟩
    · exact h'.2.2 x hx
theorem Hs.new {w W : World} {l : List (Nat × Int)} (h : Hs w W l) : Hs w (W.alloc (.cells #[.bool false, .slice none 0 0] 94)) ((W.heap.size, 0) :: l) :=
  h.news (Z.new W) (Nat.le_refl _) (Ma.waq W _)
theorem Hs.put {w W W' : World} {l : List (Nat × Int)} {p : Nat} {v z : Int} (h : Hs w W ((p, v) :: l)) (hz : Z W' p z) (hg : W.grownBy W' (some p)) : Hs w W' ((p, z) :: l) := by
  have hp := h.2.2 (p, v) (.head _)
  refine ⟨below_put h.1 hg hp.2 h.1.size, h.2.1, fun x hx => ?_⟩
  rcases List.mem_cons.1 hx with rfl | hx
  · exact ⟨hz, hp.2⟩
  · have hx' := h.2.2 x (.tail _ hx)
    refine ⟨hx'.1.grown hg hp.1.blk (fun e => ?_), hx'.2⟩
    exact (List.nodup_cons.1 h.2.1).1 (List.mem_map.2 ⟨x, hx, e⟩)
theorem Hs.swap {w W : World} {l : List (Nat × Int)} {a b : Nat × Int} (h : Hs w W (a :: b :: l)) : Hs w W (b :: a :: l) :=
  ⟨h.1, (List.Perm.swap b.1 a.1 (l.map Prod.fst)).nodup_iff.1 h.2.1 |> fun h => h, fun x hx => h.2.2 x (by
    rcases List.mem_cons.1 hx with rfl | hx
    · exact .tail _ (.head _)
    · rcases List.mem_cons.1 hx with rfl | hx
      · exact .head _
      · exact .tail _ (.tail _ hx))⟩
theorem Hs.tail {w W : World} {l : List (Nat × Int)} {a : Nat × Int} (h : Hs w W (a :: l)) : Hs w W l :=
  ⟨h.1, (List.nodup_cons.1 h.2.1).2, fun x hx => h.2.2 x (.tail _ hx)⟩
theorem Hs.drop2 {w W : World} {l : List (Nat × Int)} {a b : Nat × Int} (h : Hs w W (a :: b :: l)) : Hs w W (a :: l) := h.swap.tail
end Go.Proofs.YtjggbalhpflbbaaGreat.Hs
end
section
set_option linter.unusedVariables false
set_option linter.unusedSimpArgs false
namespace Go.Proofs.YtjggbalhpflbbaaGreat.Nr
open Go.RowKit Go.Proofs.YtjggbalhpflbbaaGreat.Hs Go.Proofs.YtjggbalhpflbbaaGreatW.PrintWords Go.Proofs.YtjggbalhpflbbaaGreat.PW Go.Proofs.YtjggbalhpflbbaaGreat.Pc Go.Proofs.YtjggbalhpflbbaaGreat.Pb Go.Proofs.YtjggbalhpflbbaaGreat.Pw Go.Proofs.YtjggbalhpflbbaaGreat.Pm Go.Proofs.YtjggbalhpflbbaaGreat.Ma Go.Proofs.YtjggbalhpflbbaaGreat.Mb Go.Proofs.YtjggbalhpflbbaaGreat.Mc Go.Proofs.YtjggbalhpflbbaaGreat.Me Go.Proofs.YtjggbalhpflbbaaGreat.Mh Go.Proofs.YtjggbalhpflbbaaGreat.Mk Go.Proofs.YtjggbalhpflbbaaGreat.Mu Go.Proofs.YtjggbalhpflbbaaGreat.Na Go.Proofs.YtjggbalhpflbbaaGreat.Nb Go.Proofs.YtjggbalhpflbbaaGreat.Re Go.Proofs.YtjggbalhpflbbaaGreat.Ve Go.Proofs.YtjggbalhpflbbaaGreat.Vg Dg Fp
theorem cells1 {W : World} {g : Nat} {u : Value} {t : Nat} (hg : W.heap[g]? = some (.cells #[u] t (0, 0))) : W.cell? ⟨g, 0, none⟩ = some u ∧ W.frozen? ⟨g, 0, none⟩ = false ∧ g < W.heap.size :=
  ⟨kcq hg 0, kfq hg 0, (Array.getElem?_eq_some_iff.1 hg).1⟩
theorem tells_below {w w' : World} (h : ∃ n, w' = w.drewN n) : Below w.heap.size w w' := by
  obtain ⟨n, rfl⟩ := h
  exact below_drawn n
theorem newAt (w : World) (o : Obj) : (w.alloc o).heap[w.heap.size]? = some o := heap_alloc_new w o
theorem nround0 {w : World} {q : Nat} {e mode : Int} (hz : Z w q 0) :
    Calls Tryz.prog 42 #[.agg #[.pointer (some ⟨q, 0, none⟩), .int .i64 e], .int .i64 mode] w fun en w' => en = .returned (.tuple #[.float .f32 0, .int .i64 0]) ∧ Below w.heap.size w w' := by
  obtain ⟨W0, hW0⟩ : ∃ W0, W0 = (w.alloc (.cells #[.pointer (some ⟨q, 0, none⟩), .int .i64 e] 50)).alloc (.cells #[.int .i64 mode] 2) := ⟨_, rfl⟩
  obtain ⟨hb0, hx0, hx1, hs0⟩ := boxes2 w (.cells #[.pointer (some ⟨q, 0, none⟩), .int .i64 e] 50) (.cells #[.int .i64 mode] 2) W0 (by rw [hW0]; exact Below.refl _ _)
  have HS := Lib.hid (nsign (e := e) (hz.below hb0))
  have HB0 := Lib.hid hb0
  have HW := Lib.hid hW0
  obtain ⟨c0, c1, _, _, l0⟩ := cellsN hx0
  clear hb0 hx0 hx1 hW0 hz
  go_enter Tryz.func42, Tryz.ntmps42
  go_upto_region 1 with fail
  rw [← HW.out]
  clear HW
  go_wp2_with fail
  refine HS.out.mono ?_
  rintro en w1 ⟨rfl, hb⟩
  have HB1 := Lib.hid (below_then HB0.out hb)
  clear hb
  go_wp2
  go_ret2
  exact ⟨rfl, HB1.out⟩
def St (w W : World) (q : Nat) (z e mode : Int) (bs : Nat) : Prop :=
  W.heap[w.heap.size]? = some (.cells #[.pointer (some ⟨q, 0, none⟩), .int .i64 e] 50 (0, 0)) ∧ W.heap[w.heap.size + 1]? = some (.cells #[.int .i64 mode] 2 (0, 0)) ∧ W.heap[bs]? = some (.cells #[.int .i64 (sgn z)] 3 (0, 0)) ∧ Z W q z ∧ Below w.heap.size w W
theorem St.cells {w wc W : World} {q bs : Nat} {z e mode : Int} (h : St w wc q z e mode bs) (hb : Below wc.heap.size wc W) :
    (W.cell? ⟨w.heap.size, 0, none⟩ = some (.pointer (some ⟨q, 0, none⟩)) ∧ W.cell? ⟨w.heap.size, 1, none⟩ = some (.int .i64 e)) ∧ W.cell? ⟨w.heap.size + 1, 0, none⟩ = some (.int .i64 mode) ∧ W.cell? ⟨bs, 0, none⟩ = some (.int .i64 (sgn z)) ∧ Z W q z ∧ Below w.heap.size w W := by
  obtain ⟨h0, h1, h2, hz, hw⟩ := h
  have g0 := (hb.block _ (klq h0)).trans h0
  have g1 := (hb.block _ (klq h1)).trans h1
  have g2 := (hb.block _ (klq h2)).trans h2
  exact ⟨⟨kcq g0 0, kcq g0 1⟩, kcq g1 0, kcq g2 0, hz.below hb, below_then hw hb⟩
theorem St.new {w W : World} {q : Nat} {z e mode : Int} (h0 : W.heap[w.heap.size]? = some (.cells #[.pointer (some ⟨q, 0, none⟩), .int .i64 e] 50 (0, 0))) (h1 : W.heap[w.heap.size + 1]? = some (.cells #[.int .i64 mode] 2 (0, 0))) (hz : Z W q z) (hb : Below w.heap.size w W) :
    St w (W.alloc (.cells #[.int .i64 (sgn z)] 3)) q z e mode W.heap.size :=
  ⟨kaq h0 _, kaq h1 _, newAt _ _, hz.below (Ma.waq _ _), Go.Proofs.YtjggbalhpflbbaaGreatW.PrintWords.waq hb _⟩
theorem St.set {w W : World} {q bs : Nat} {z e mode : Int} (h0 : W.heap[w.heap.size]? = some (.cells #[.pointer (some ⟨q, 0, none⟩), .int .i64 e] 50 (0, 0))) (h1 : W.heap[w.heap.size + 1]? = some (.cells #[.int .i64 mode] 2 (0, 0))) (hz : Z W q z) (hb : Below w.heap.size w W)
    (hs : W.heap[bs]? = some (.cells #[.int .i64 0] 3 (0, 0))) (hle : w.heap.size + 2 ≤ bs) : St w (W.setCell ⟨bs, 0, none⟩ (.int .i64 (sgn z))) q z e mode bs :=
  ⟨blk_far h0 (by simp; omega) _, blk_far h1 (by simp; omega) _, blk_set hs 0 _, zset hz hs (by decide) (by intro i x; match i with | 0 => simp | n + 1 => simp) 0 _, hb.setCell (p := ⟨bs, 0, none⟩) (by simp; omega) _⟩
theorem rt_up {z e mode Q : Int} (hQ : Q = rq (bl z.natAbs) e) (h : Q ≤ e) : rt z e mode = (z.natAbs * 2 ^ (e - Q).toNat, 0) := by
  unfold rt
  rw [← hQ, if_pos h]
theorem rt_exact {z e mode Q : Int} {k : Nat} (hQ : Q = rq (bl z.natAbs) e) (h : ¬ Q ≤ e) (hk : (k : Int) = Q - e) (hr : z.natAbs % 2 ^ k = 0) : rt z e mode = (z.natAbs / 2 ^ k, 0) := by
  have ek : (Q - e).toNat = k := by omega
  unfold rt
  rw [← hQ, if_neg h, ek, if_pos hr]
theorem rt_cut {z e mode Q : Int} {k : Nat} (hQ : Q = rq (bl z.natAbs) e) (h : ¬ Q ≤ e) (hk : (k : Int) = Q - e) (hr : z.natAbs % 2 ^ k ≠ 0) : rt z e mode = (z.natAbs / 2 ^ k + (if ups mode (sgn z) (z.natAbs / 2 ^ k) (z.natAbs % 2 ^ k) (2 ^ (k - 1)) = true then 1 else 0), if (bl z.natAbs : Int) + e ≤ -126 then 3 else 1) := by
  have ek : (Q - e).toNat = k := by omega
  unfold rt
  rw [← hQ, if_neg h, ek, if_neg hr]
theorem rest_of (n k : Nat) : (n : Int) - (n : Int) / 2 ^ k * 2 ^ k = ((n % 2 ^ k : Nat) : Int) := by
  have h := Nat.div_add_mod n (2 ^ k)
  have e1 : (n : Int) / 2 ^ k = ((n / 2 ^ k : Nat) : Int) := by push_cast; rfl
  have e2 : ((n / 2 ^ k : Nat) : Int) * 2 ^ k = ((n / 2 ^ k * 2 ^ k : Nat) : Int) := by push_cast; rfl
  rw [e1, e2]
  rw [Nat.mul_comm] at h
  omega
theorem sgn_nat {r : Nat} (h : r ≠ 0) : sgn (r : Int) = 1 := by unfold Pm.sgn; rw [if_neg (by omega), if_neg (by omega)]
theorem sgn_cases (x : Int) : (0 < x ∧ sgn x = 1) ∨ (x = 0 ∧ sgn x = 0) ∨ (x < 0 ∧ sgn x = -1) := by unfold Pm.sgn; split <;> (try split) <;> omega
theorem bl_div (n k : Nat) : bl (n / 2 ^ k) ≤ bl n := bl_mono (Nat.div_le_self _ _)
theorem bl_mod (n k : Nat) : bl (n % 2 ^ k) ≤ bl n := bl_mono (Nat.mod_le _ _)
theorem ups0 {s : Int} {t r h : Nat} : ups 0 s t r h = decide (h < r ∨ r = h ∧ t % 2 = 1) := rfl
theorem ups1 {s : Int} {t r h : Nat} : ups 1 s t r h = decide (s < 0) := rfl
theorem ups2 {s : Int} {t r h : Nat} : ups 2 s t r h = decide (0 < s) := rfl
theorem ups3 {s : Int} {t r h : Nat} : ups 3 s t r h = false := rfl
theorem ups4 {s : Int} {t r h : Nat} : ups 4 s t r h = true := rfl
theorem ldexpT {t : Nat} {Q : Int} (ht : t ≤ 16777216) (h1 : -149 ≤ Q) (h2 : Q ≤ 104) (w : World) :
    Calls Tryz.prog 80 #[.float .f64 (floatOfInt .f64 (t : Int)), .int .i64 Q] w fun e' w' => (∃ r, e' = .returned (.float .f64 r) ∧ IsN Ieee.double r false (V t Q)) ∧ w = w' := by
  have hb := ofInt64 (t : Int) (by omega) (by omega)
  rw [Int.natAbs_natCast, show decide ((t : Int) < 0) = false from decide_eq_false (by omega)] at hb
  by_cases h0 : t = 0
  · subst h0
    refine (mLdexp0 hb Q w).mono ?_
    rintro e' w' ⟨rfl, rfl⟩
    rw [V_zero] at hb
    exact ⟨⟨_, rfl, by rw [V_zero]; exact hb⟩, rfl⟩
  · exact mLdexp hb (by omega) (by omega) (by omega) (by omega) w
theorem convT {r t : Nat} {Q : Int} (hr : IsN Ieee.double r false (V t Q)) (ht : t ≤ 16777216) (h1 : -149 ≤ Q) (h2 : (bl t : Int) + Q ≤ 128) (h3 : Q ≤ 104) (w : World) : (convert 64 39 (.float .f64 r)).run Tryz.prog w = .ok (.float .f32 (Ieee.single.nearest false t Q)) w :=
  run_convert_float_float (P := Tryz.prog) w 64 39 .f64 .f32 r (Ieee.single.nearest false t Q) (by rw [Tryz.underlying64]; rfl) Tryz.underlying39 (Rf.narrow_t hr ht h1 h2 h3)
theorem negT {t : Nat} {Q : Int} (ht : t ≤ 16777216) (h1 : -149 ≤ Q) (h2 : (bl t : Int) + Q ≤ 128) (h3 : Q ≤ 104) : Op.negFloat .f32 (Ieee.single.nearest false t Q) = Ieee.single.nearest true t Q := by
  rw [We.neg32 _ (Rf.near_lt false ht h1 h2 h3).1, Rf.opp_near ht h1 h2 h3]
set_option maxRecDepth 20000 in
set_option maxHeartbeats 1600000 in
theorem nround {w : World} {q : Nat} {z e mode : Int} (hz : Z w q z) (h0 : z ≠ 0) (h1 : bl z.natAbs ≤ 1000000) (h2 : -1000000 ≤ e) (h3 : e ≤ 1000000) (h4 : 0 ≤ mode) (h5 : mode ≤ 4) :
    Calls Tryz.prog 42 #[.agg #[.pointer (some ⟨q, 0, none⟩), .int .i64 e], .int .i64 mode] w fun en w' => en = .returned (.tuple #[.float .f32 (rnd z e mode).1, .int .i64 (rnd z e mode).2]) ∧ Below w.heap.size w w' := by
  obtain ⟨W0, hW0⟩ : ∃ W0, W0 = (w.alloc (.cells #[.pointer (some ⟨q, 0, none⟩), .int .i64 e] 50)).alloc (.cells #[.int .i64 mode] 2) := ⟨_, rfl⟩
  obtain ⟨hb0, hx0, hx1, hs0⟩ := boxes2 w (.cells #[.pointer (some ⟨q, 0, none⟩), .int .i64 e] 50) (.cells #[.int .i64 mode] 2) W0 (by rw [hW0]; exact Below.refl _ _)
  have hz0 := hz.below hb0
  have HS := Lib.hid (fun (W : World) (hb : Below W0.heap.size W0 W) => nsign (e := e) (hz0.below hb))
  have HL := Lib.hid (fun (W : World) (hb : Below W0.heap.size W0 W) => Me.bitLen (hz0.below hb) (by omega))
  have HB0 := Lib.hid hb0
  have HX0 := Lib.hid hx0
  have HX1 := Lib.hid hx1
  have HZ0 := Lib.hid hz0
  have HW := Lib.hid hW0
  have hsg : sgn z ≠ 0 := by unfold Pm.sgn; split <;> (try split) <;> omega
  obtain ⟨c0, c1, _, _, l0⟩ := cellsN hx0
  obtain ⟨d0, _, l1⟩ := cells1 hx1
  clear hb0 hx0 hx1 hW0 hz hz0
  go_enter Tryz.func42, Tryz.ntmps42
  go_upto_region 1 with fail
  rw [← HW.out]
  clear HW
  go_wp2_with fail
  refine (HS.out _ (Below.refl _ _)).mono ?_
  rintro en w1 ⟨rfl, hb⟩
  have hx0 := (hb.block _ l0).trans HX0.out
  have hx1 := (hb.block _ l1).trans HX1.out
  have HB1 := Lib.hid hb
  clear c0 c1 d0 hb
  have HX0b := Lib.hid hx0
  have HX1b := Lib.hid hx1
  obtain ⟨c0, c1, _, _, k0⟩ := cellsN hx0
  obtain ⟨d0, _, k1⟩ := cells1 hx1
  clear hx0 hx1
  have n1a : w.heap.size ≠ w1.heap.size := by omega
  have n1b := Ne.symm n1a
  go_upto_region 3 with fail
  go_cut [6, 7] (fun v6 v7 wc => v7 = .int .i64 ((bl z.natAbs : Nat) : Int) ∧ ∃ bs, v6 = .pointer (some ⟨bs, 0, none⟩) ∧ Hid (St w wc q z e mode bs))
  case first =>
    go_region_held3 (fun w' => w'.cell? ⟨w.heap.size, 0, none⟩ = some (.pointer (some ⟨q, 0, none⟩)) ∧ w'.cell? ⟨w.heap.size, 1, none⟩ = some (.int .i64 e)) (go_keep)
      (first
        | (go_at_call 67; (first
          | (refine (HS.out _ (Go.Proofs.YtjggbalhpflbbaaGreatW.PrintWords.waq HB3.out _)).mono ?_; rintro en w2 ⟨rfl, hb⟩; have hb2 := below_then (Go.Proofs.YtjggbalhpflbbaaGreatW.PrintWords.waq HB3.out _) hb; have hs := (hb.block w3.heap.size (by simp)).trans (newAt _ _); obtain ⟨s0, s1, s2⟩ := cells1 hs; have HS2 := Lib.hid hs; have hx0 := (hb2.block _ l0).trans HX0.out; obtain ⟨c0, c1, _, _, k0⟩ := cellsN hx0; have HB2 := Lib.hid hb2; have n2a : w.heap.size ≠ w2.heap.size := (by have := hb2.size; omega); have n2b := Ne.symm n2a; clear hb hb2 hx0 hs)
          | (refine (HS.out _ HB3.out).mono ?_; rintro en w2 ⟨rfl, hb⟩; have hb2 := below_then HB3.out hb; have hs := (hb.block _ (cells1 HS3.out).2.2).trans HS3.out; obtain ⟨s0, s1, s2⟩ := cells1 hs; have HS2 := Lib.hid hs; have hx0 := (hb2.block _ l0).trans HX0.out; obtain ⟨c0, c1, _, _, k0⟩ := cellsN hx0; have HB2 := Lib.hid hb2; have n2a : w.heap.size ≠ w2.heap.size := (by have := hb2.size; omega); have n2b := Ne.symm n2a; clear hb hb2 hx0 hs)
          | (refine (HS.out _ HB3.out).mono ?_; rintro en w2 ⟨rfl, hb⟩; have hb2 := below_then HB3.out hb; have hx0 := (hb2.block _ l0).trans HX0.out; obtain ⟨c0, c1, _, _, k0⟩ := cellsN hx0; have HB2 := Lib.hid hb2; have n2a : w.heap.size ≠ w2.heap.size := (by have := hb2.size; omega); have n2b := Ne.symm n2a; clear hb hb2 hx0)
          | (refine (HS.out _ (Go.Proofs.YtjggbalhpflbbaaGreatW.PrintWords.waq HB1.out.drew _)).mono ?_; rintro en w2 ⟨rfl, hb⟩; have hb2 := below_then (Go.Proofs.YtjggbalhpflbbaaGreatW.PrintWords.waq HB1.out.drew _) hb; have hs := (hb.block w1.heap.size (by simp)).trans (newAt _ _); obtain ⟨s0, s1, s2⟩ := cells1 hs; have HS2 := Lib.hid hs; have hx0 := (hb2.block _ l0).trans HX0.out; obtain ⟨c0, c1, _, _, k0⟩ := cellsN hx0; have HB2 := Lib.hid hb2; have n2a : w.heap.size ≠ w2.heap.size := (by have := hb2.size; omega); have n2b := Ne.symm n2a; clear hb hb2 hx0 hs)
          | (refine (HS.out _ HB1.out.drew).mono ?_; rintro en w2 ⟨rfl, hb⟩; have hb2 := below_then HB1.out.drew hb; have hs := (hb.block _ (cells1 HS3.out).2.2).trans HS3.out; obtain ⟨s0, s1, s2⟩ := cells1 hs; have HS2 := Lib.hid hs; have hx0 := (hb2.block _ l0).trans HX0.out; obtain ⟨c0, c1, _, _, k0⟩ := cellsN hx0; have HB2 := Lib.hid hb2; have n2a : w.heap.size ≠ w2.heap.size := (by have := hb2.size; omega); have n2b := Ne.symm n2a; clear hb hb2 hx0 hs)
          | (refine (HS.out _ HB1.out.drew).mono ?_; rintro en w2 ⟨rfl, hb⟩; have hb2 := below_then HB1.out.drew hb; have hx0 := (hb2.block _ l0).trans HX0.out; obtain ⟨c0, c1, _, _, k0⟩ := cellsN hx0; have HB2 := Lib.hid hb2; have n2a : w.heap.size ≠ w2.heap.size := (by have := hb2.size; omega); have n2b := Ne.symm n2a; clear hb hb2 hx0)))
        | (go_at_call 68; (first
          | (refine (HL.out _ (Go.Proofs.YtjggbalhpflbbaaGreatW.PrintWords.waq HB2.out _)).mono ?_; rintro en w3 ⟨rfl, hd⟩; have hb := tells_below hd; clear hd; have hb2 := below_then (Go.Proofs.YtjggbalhpflbbaaGreatW.PrintWords.waq HB2.out _) hb; have hs := (hb.block w2.heap.size (by simp)).trans (newAt _ _); obtain ⟨s0, s1, s2⟩ := cells1 hs; have HS3 := Lib.hid hs; have hx0 := (hb2.block _ l0).trans HX0.out; obtain ⟨c0, c1, _, _, k0⟩ := cellsN hx0; have HB3 := Lib.hid hb2; have n3a : w.heap.size ≠ w3.heap.size := (by have := hb2.size; omega); have n3b := Ne.symm n3a; clear hb hb2 hx0 hs)
          | (refine (HL.out _ HB2.out).mono ?_; rintro en w3 ⟨rfl, hd⟩; have hb := tells_below hd; clear hd; have hb2 := below_then HB2.out hb; have hs := (hb.block _ (cells1 HS2.out).2.2).trans HS2.out; obtain ⟨s0, s1, s2⟩ := cells1 hs; have HS3 := Lib.hid hs; have hx0 := (hb2.block _ l0).trans HX0.out; obtain ⟨c0, c1, _, _, k0⟩ := cellsN hx0; have HB3 := Lib.hid hb2; have n3a : w.heap.size ≠ w3.heap.size := (by have := hb2.size; omega); have n3b := Ne.symm n3a; clear hb hb2 hx0 hs)
          | (refine (HL.out _ HB2.out).mono ?_; rintro en w3 ⟨rfl, hd⟩; have hb := tells_below hd; clear hd; have hb2 := below_then HB2.out hb; have hx0 := (hb2.block _ l0).trans HX0.out; obtain ⟨c0, c1, _, _, k0⟩ := cellsN hx0; have HB3 := Lib.hid hb2; have n3a : w.heap.size ≠ w3.heap.size := (by have := hb2.size; omega); have n3b := Ne.symm n3a; clear hb hb2 hx0)
          | (refine (HL.out _ (Go.Proofs.YtjggbalhpflbbaaGreatW.PrintWords.waq HB1.out.drew _)).mono ?_; rintro en w3 ⟨rfl, hd⟩; have hb := tells_below hd; clear hd; have hb2 := below_then (Go.Proofs.YtjggbalhpflbbaaGreatW.PrintWords.waq HB1.out.drew _) hb; have hs := (hb.block w1.heap.size (by simp)).trans (newAt _ _); obtain ⟨s0, s1, s2⟩ := cells1 hs; have HS3 := Lib.hid hs; have hx0 := (hb2.block _ l0).trans HX0.out; obtain ⟨c0, c1, _, _, k0⟩ := cellsN hx0; have HB3 := Lib.hid hb2; have n3a : w.heap.size ≠ w3.heap.size := (by have := hb2.size; omega); have n3b := Ne.symm n3a; clear hb hb2 hx0 hs)
          | (refine (HL.out _ HB1.out.drew).mono ?_; rintro en w3 ⟨rfl, hd⟩; have hb := tells_below hd; clear hd; have hb2 := below_then HB1.out.drew hb; have hs := (hb.block _ (cells1 HS2.out).2.2).trans HS2.out; obtain ⟨s0, s1, s2⟩ := cells1 hs; have HS3 := Lib.hid hs; have hx0 := (hb2.block _ l0).trans HX0.out; obtain ⟨c0, c1, _, _, k0⟩ := cellsN hx0; have HB3 := Lib.hid hb2; have n3a : w.heap.size ≠ w3.heap.size := (by have := hb2.size; omega); have n3b := Ne.symm n3a; clear hb hb2 hx0 hs)
          | (refine (HL.out _ HB1.out.drew).mono ?_; rintro en w3 ⟨rfl, hd⟩; have hb := tells_below hd; clear hd; have hb2 := below_then HB1.out.drew hb; have hx0 := (hb2.block _ l0).trans HX0.out; obtain ⟨c0, c1, _, _, k0⟩ := cellsN hx0; have HB3 := Lib.hid hb2; have n3a : w.heap.size ≠ w3.heap.size := (by have := hb2.size; omega); have n3b := Ne.symm n3a; clear hb hb2 hx0))))
    all_goals go_wp2_with fail
    all_goals go_meet
    all_goals
      have hb3 := HB3.out
      have hx0 := (hb3.block _ l0).trans HX0.out
      have hx1 := (hb3.block _ l1).trans HX1.out
      have hz3 := HZ0.out.below hb3
      have hbw := below_then HB0.out hb3
    all_goals first
      | exact ⟨rfl, _, rfl, Lib.hid (St.new hx0 hx1 hz3 hbw)⟩
      | exact ⟨rfl, _, rfl, Lib.hid (St.set hx0 hx1 hz3 hbw HS3.out (by have := HB1.out.size; omega))⟩
      | exact ⟨rfl, _, rfl, Lib.hid (St.set hx0 hx1 hz3 hbw HS3.out (by have := HB2.out.size; omega))⟩
  case rest =>
    obtain ⟨rfl, bs, rfl, HST⟩ := hcut
    clear c0 c1 d0 n1a n1b HX0b HX1b HX0 HX1 HZ0 HB0 HB1 HS HL l0 l1 hs0 k0 k1
    have stay := Lib.hid (fun (W : World) (hb : Below wc.heap.size wc W) => St.cells HST.out hb)
    have hmf : ∀ (fn : Fn) (first cap : Array Value) (w : World), (Instr.makeFunc fn first cap).run Tryz.prog w = .ok (.func fn first cap) w := fun _ _ _ _ => rfl
    have hs1 : sgn z = 1 ∨ sgn z = -1 := by unfold Pm.sgn; split <;> (try split) <;> omega
    obtain ⟨⟨c0, c1⟩, d0, e0, hz, hbw⟩ := stay.out wc (Below.refl _ _)
    have HO := Lib.hid (fun (W : World) (hb : Below wc.heap.size wc W) => cOver (stay.out W hb).2.1 (stay.out W hb).2.2.1 hs1 ⟨h4, h5⟩)
    by_cases hov : 128 < (bl z.natAbs : Int) + e
    · have hr : rnd z e mode = (ovr (sgn z) mode, 5) := by
        unfold rnd
        rw [if_neg h0, if_pos hov]
      have HR := Lib.hid hr
      have HBW := Lib.hid hbw
      clear hr hz hbw hs1
      go_wp2_with fail
      refine (HO.out _ (Below.refl _ _)).mono ?_
      rintro en w5 ⟨rfl, rfl⟩
      go_wp2
      go_ret2
      exact ⟨by rw [HR.out]; rfl, HBW.out⟩
    · have HOV := Lib.hid hov
      have hov1 : (bl z.natAbs : Int) + e ≤ 128 := by omega
      obtain ⟨Q, hQ⟩ : ∃ Q, Q = rq (bl z.natAbs) e := ⟨_, rfl⟩
      have HQ := Lib.hid hQ
      have q1 : (bl z.natAbs : Int) + e - 24 < -149 → Q = -149 := fun h => by rw [hQ]; unfold rq; rw [if_pos h]
      have q2 : ¬ (bl z.natAbs : Int) + e - 24 < -149 → Q = (bl z.natAbs : Int) + e - 24 := fun h => by rw [hQ]; unfold rq; rw [if_neg h]
      clear hov hQ
      have HQ1 := Lib.hid q1
      have HQ2 := Lib.hid q2
      have HZ := Lib.hid hz
      have HBW := Lib.hid hbw
      clear q1 q2 hz hbw
      go_upto_region 7 with fail
      go_cut [9] (fun v9 wx => v9 = .int .i64 Q ∧ wx = wc)
      case first =>
        rcases Int.lt_trichotomy ((bl z.natAbs : Int) + e - 24) (-149) with h | h | h
        all_goals go_wp2
        all_goals go_meet
        · exact ⟨by rw [HQ1.out (by omega)], rfl⟩
        · exact ⟨by rw [HQ2.out (by omega), h], rfl⟩
        · exact ⟨by rw [HQ2.out (by omega)], rfl⟩
      case rest =>
        obtain ⟨rfl, rfl⟩ := hcut
        have HA := Lib.hid (fun (W : World) (hb : Below wc.heap.size wc W) => Me.abs (Z.new W).blk ((stay.out W hb).2.2.2.1.below (Ma.waq W _)) (by omega))
        have l0 : w.heap.size < wc.heap.size := klq HST.out.1
        have l1 : w.heap.size + 1 < wc.heap.size := klq HST.out.2.1
        have l2 : bs < wc.heap.size := klq HST.out.2.2.1
        go_wp2_with fail
        refine (HA.out wc (Below.refl _ _)).mono ?_
        rintro en w5 ⟨rfl, hza, hga⟩
        have HS5 := Lib.hid ((Hs.nil wc).new.put hza hga)
        clear c0 c1 d0 e0 hza hga
        go_upto_region 11 with fail
        have HT := Lib.hid (Hs.new HS5.out)
        clear HS5
        generalize hW : w5.alloc (.cells #[.bool false, .slice none 0 0] 94) = w6 at HT ⊢
        clear hW
        generalize hT : w5.heap.size = T at HT ⊢
        clear hT
        obtain ⟨⟨c0, c1⟩, d0, e0, -, -⟩ := stay.out w6 HT.out.1
        have hq0 : -149 ≤ Q := by have h := HQ.out; rw [h]; exact (Rf.rq_bd _ _).1
        have hq1 : Q ≤ 104 := by have h := HQ.out; rw [h]; exact Rf.rq_le hov1
        have hnn : bl ((z.natAbs : Nat) : Int).natAbs ≤ 1000000 := by rw [Int.natAbs_natCast]; exact h1
        go_upto_if 50 with fail
        go_cut [11] (fun v11 wx => v11 = .int .i64 (rt z e mode).2 ∧ Hid (Hs wc wx [(T, ((rt z e mode).1 : Int)), (wc.heap.size, (z.natAbs : Int))]))
        case first =>
          by_cases hge : Q ≤ e
          · have ek : e - Q = ((e - Q).toNat : Int) := by omega
            have HL := Lib.hid (ek.symm ▸ Md.lsh (n := (e - Q).toNat) (HT.out.get (.head _)).blk (HT.out.get (.tail _ (.head _))) (by omega) (by omega))
            have HRT := Lib.hid (rt_up (mode := mode) HQ.out hge)
            clear ek
            go_wp2_with fail
            refine HL.out.mono ?_
            rintro en w7 ⟨rfl, hz7, hg7⟩
            have H7 := Lib.hid (HT.out.put hz7 hg7)
            clear hz7 hg7
            go_wp2_with fail
            go_meet
            rw [HRT.out]
            have h7 := H7.out
            rw [show (z.natAbs : Int) * 2 ^ (e - Q).toNat = ((z.natAbs * 2 ^ (e - Q).toNat : Nat) : Int) by push_cast; rfl] at h7
            exact ⟨rfl, Lib.hid h7⟩
          · obtain ⟨k, hk⟩ : ∃ k : Nat, (k : Int) = Q - e := ⟨(Q - e).toNat, by omega⟩
            have hk1 : 1 ≤ k := by omega
            have hk2 : k ≤ 2000000 := by omega
            have HR := Lib.hid (hk ▸ Mk.rsh (n := k) (HT.out.get (.head _)).blk (HT.out.get (.tail _ (.head _))) (by omega) (by omega))
            have hbd := bl_div z.natAbs k
            have hbm := bl_mod z.natAbs k
            have hpw : bl (2 ^ (k - 1)) ≤ k := by rw [← Nat.one_mul (2 ^ (k - 1)), bl_shift (by decide)]; show 1 + (k - 1) ≤ k; omega
            go_wp2_with fail
            refine HR.out.mono ?_
            rintro en w7 ⟨rfl, hz7, hg7⟩
            have h7 := HT.out.put hz7 hg7
            rw [show (z.natAbs : Int) / 2 ^ k = ((z.natAbs / 2 ^ k : Nat) : Int) by push_cast; rfl] at h7
            clear hz7 hg7 HR c0 c1 d0 e0
            have h9 := h7.new.new
            rw [Mu.alloc_size] at h9
            have HL := Lib.hid (hk ▸ Md.lsh (n := k) (h9.get (.head _)).blk (h9.get (.tail _ (.tail _ (.head _)))) (by rw [Int.natAbs_natCast]; omega) (by omega))
            have H9 := Lib.hid h9
            clear h7 h9
            go_wp2_with fail
            refine HL.out.mono ?_
            rintro en w10 ⟨rfl, hz, hg⟩
            have h10 := (H9.out.put hz hg).swap
            have HSB := Lib.hid (Mj.sub (h10.get (.head _)).blk (h10.get (.tail _ (.tail _ (.tail _ (.head _))))) (h10.get (.tail _ (.head _))) (by omega) (by rw [Rf.natAbs_two, Int.natAbs_natCast]; exact Nat.le_trans (bl_mono (Nat.div_mul_le_self _ _)) (by omega)))
            have H10 := Lib.hid h10
            clear h10 hz hg HL H9
            go_wp2_with fail
            refine HSB.out.mono ?_
            rintro en w11 ⟨rfl, hz, hg⟩
            have h11 := (H10.out.put hz hg).drop2
            rw [show ((z.natAbs / 2 ^ k : Nat) : Int) = (z.natAbs : Int) / 2 ^ k by push_cast; rfl, rest_of] at h11
            rw [show (z.natAbs : Int) / 2 ^ k = ((z.natAbs / 2 ^ k : Nat) : Int) by push_cast; rfl] at h11
            clear hz hg HSB H10
            generalize w7.heap.size = R at h11 ⊢
            have HSG := Lib.hid (Me.sign (h11.get (.head _)))
            have H11 := Lib.hid h11
            obtain ⟨⟨c0, c1⟩, d0, e0, -, -⟩ := stay.out w11 h11.1
            clear h11
            by_cases hr : z.natAbs % 2 ^ k = 0
            · have HRT := Lib.hid (rt_exact (mode := mode) HQ.out (by omega) hk hr)
              rw [hr] at HSG
              go_wp2_with fail
              refine HSG.out.mono ?_
              rintro en w12 ⟨rfl, rfl⟩
              go_wp2_with fail
              go_meet
              rw [HRT.out]
              exact ⟨rfl, Lib.hid H11.out.tail⟩
            · have HRT := Lib.hid (rt_cut (mode := mode) HQ.out (by omega) hk hr)
              rw [sgn_nat hr] at HSG
              go_wp2_with fail
              refine HSG.out.mono ?_
              rintro en w12 ⟨rfl, rfl⟩
              go_upto_if 82 with fail
              obtain ⟨F, hF⟩ : ∃ F : Int, F = if (bl z.natAbs : Int) + e ≤ -126 then 3 else 1 := ⟨_, rfl⟩
              have HF := Lib.hid hF
              rw [← hF] at HRT
              clear hF
              go_cut [11] (fun v11 wx => v11 = .int .i64 F ∧ wx = w11)
              case first =>
                by_cases ht : (bl z.natAbs : Int) + e ≤ -126
                · go_wp2_with fail
                  go_meet
                  rw [HF.out, if_pos ht]
                  exact ⟨rfl, rfl⟩
                · go_wp2_with fail
                  go_meet
                  rw [HF.out, if_neg (by omega)]
                  exact ⟨rfl, rfl⟩
              case rest =>
                obtain ⟨rfl, rfl⟩ := hcut
                have h12 := H11.out.new
                obtain ⟨⟨c0, c1⟩, d0, e0, -, -⟩ := stay.out _ h12.1
                have HN := Lib.hid (fun (W : World) => Mc.newInt (w := W) (n := 1) (by decide) (by decide))
                have H12 := Lib.hid h12
                clear h12
                go_wp2_with fail
                refine (HN.out _).mono ?_
                rintro en w13 ⟨g, rfl, hz, hgl, hb⟩
                have h13 := (H12.out.news hz hgl hb).swap
                have hk3 : (Q - e - 1) = ((k - 1 : Nat) : Int) := by omega
                have HL := Lib.hid (hk3.symm ▸ Md.lsh (n := k - 1) (h13.get (.head _)).blk (h13.get (.tail _ (.head _))) (by decide) (by omega))
                have H13 := Lib.hid h13
                clear h13 hz hgl hb H12 hk3
                go_wp2_with fail
                refine HL.out.mono ?_
                rintro en w14 ⟨rfl, hz, hg⟩
                have h14 := (H13.out.put hz hg).drop2.swap
                rw [show (1 : Int) * 2 ^ (k - 1) = ((2 ^ (k - 1) : Nat) : Int) by push_cast; rw [Int.one_mul]] at h14
                have hC := Mi.cmp (h14.get (.head _)) (h14.get (.tail _ (.head _))) (by rw [Int.natAbs_natCast]; omega) (by rw [Int.natAbs_natCast]; omega)
                obtain ⟨hf, hhf⟩ : ∃ hf, hf = sgn (((z.natAbs % 2 ^ k : Nat) : Int) - ((2 ^ (k - 1) : Nat) : Int)) := ⟨_, rfl⟩
                rw [← hhf] at hC
                have HC := Lib.hid hC
                have HHF := Lib.hid hhf
                clear hC hhf
                have H14 := Lib.hid h14
                clear h14 hz hg HL H13
                go_wp2_with fail
                refine HC.out.mono ?_
                rintro en w15 ⟨rfl, hd⟩
                have h15 := ((H14.out.below (tells_below hd)).tail.tail)
                obtain ⟨⟨c0, c1⟩, d0, e0, -, -⟩ := stay.out _ h15.1
                have H15 := Lib.hid h15
                clear h15 hd H14 HC
                go_upto_block 0 with fail
                obtain ⟨U, hU⟩ : ∃ U : Bool, U = ups mode (sgn z) (z.natAbs / 2 ^ k) (z.natAbs % 2 ^ k) (2 ^ (k - 1)) := ⟨_, rfl⟩
                rw [← hU] at HRT
                have HU := Lib.hid hU
                clear hU
                go_cut [16] (fun v16 wx => v16 = .bool U ∧ wx = w15)
                case first =>
                  have hbit := Nb.bit (i := 0) (H15.out.get (.head _)) (by decide)
                  have hm5 : mode = 0 ∨ mode = 1 ∨ mode = 2 ∨ mode = 3 ∨ mode = 4 := by omega
                  have HB := Lib.hid hbit
                  have hsc := sgn_cases (((z.natAbs % 2 ^ k : Nat) : Int) - ((2 ^ (k - 1) : Nat) : Int))
                  rw [← HHF.out] at hsc
                  clear hbit
                  rcases hm5 with rfl | rfl | rfl | rfl | rfl
                  · rw [Int.natAbs_natCast, Nat.pow_zero, Nat.div_one] at HB
                    rcases hsc with ⟨hc, hs⟩ | ⟨hc, hs⟩ | ⟨hc, hs⟩
                    · subst hs
                      have hu : U = true := by rw [HU.out, ups0, decide_eq_true (by omega)]
                      clear hc HHF
                      go_wp2_with fail
                      go_meet
                      exact ⟨by rw [hu], rfl⟩
                    · subst hs
                      have hu : U = decide (z.natAbs / 2 ^ k % 2 = 1) := by rw [HU.out, ups0]; congr 1; exact propext ⟨fun h => by omega, fun h => by omega⟩
                      clear hc HHF
                      rcases Nat.mod_two_eq_zero_or_one (z.natAbs / 2 ^ k) with hb | hb
                      · rw [hb] at HB
                        have hu2 : U = false := by rw [hu, hb]; rfl
                        clear hu hb
                        go_wp2_with (first | (go_at_call 78; refine HB.out.mono ?_; rintro en w16 ⟨rfl, rfl⟩))
                        go_meet
                        exact ⟨by rw [hu2], rfl⟩
                      · rw [hb] at HB
                        have hu2 : U = true := by rw [hu, hb]; rfl
                        clear hu hb
                        go_wp2_with (first | (go_at_call 78; refine HB.out.mono ?_; rintro en w16 ⟨rfl, rfl⟩))
                        go_meet
                        exact ⟨by rw [hu2], rfl⟩
                    · subst hs
                      have hu : U = false := by rw [HU.out, ups0, decide_eq_false (by omega)]
                      clear hc HHF
                      go_wp2_with fail
                      go_meet
                      exact ⟨by rw [hu], rfl⟩
                  · have hu : U = decide (sgn z < 0) := by rw [HU.out, ups1]
                    clear hsc
                    go_wp2_with fail
                    go_meet
                    exact ⟨by rw [hu], rfl⟩
                  · have hu : U = decide (0 < sgn z) := by rw [HU.out, ups2]
                    clear hsc
                    go_wp2_with fail
                    go_meet
                    exact ⟨by rw [hu], rfl⟩
                  · have hu : U = false := by rw [HU.out, ups3]
                    clear hsc
                    go_wp2_with fail
                    go_meet
                    exact ⟨by rw [hu], rfl⟩
                  · have hu : U = true := by rw [HU.out, ups4]
                    clear hsc
                    go_wp2_with fail
                    go_meet
                    exact ⟨by rw [hu], rfl⟩
                case rest =>
                  obtain ⟨rfl, rfl⟩ := hcut
                  cases hu : U with
                  | false =>
                    subst hu
                    rw [if_neg (by decide)] at HRT
                    go_wp2_with fail
                    go_meet
                    rw [HRT.out]
                    exact ⟨rfl, H15⟩
                  | true =>
                    subst hu
                    rw [if_pos rfl] at HRT
                    go_wp2_with fail
                    refine (HN.out _).mono ?_
                    rintro en w16 ⟨g6, rfl, hz, hgl, hb⟩
                    have h16 := (H15.out.news hz hgl hb).swap
                    have HAD := Lib.hid (Mj.add (h16.get (.head _)).blk (h16.get (.head _)) (h16.get (.tail _ (.head _))) (by rw [Int.natAbs_natCast]; omega) (by decide))
                    have H16 := Lib.hid h16
                    clear h16 hz hgl hb
                    go_wp2_with fail
                    refine HAD.out.mono ?_
                    rintro en w17 ⟨rfl, hz, hg⟩
                    have h17 := (H16.out.put hz hg).drop2
                    rw [show ((z.natAbs / 2 ^ k : Nat) : Int) + 1 = ((z.natAbs / 2 ^ k + 1 : Nat) : Int) by push_cast; rfl] at h17
                    have H17 := Lib.hid h17
                    clear h17 hz hg HAD H16
                    go_wp2_with fail
                    go_meet
                    rw [HRT.out]
                    exact ⟨rfl, H17⟩
        case rest =>
          obtain ⟨rfl, HX⟩ := hcut
          have htl := Rf.rt_le z e mode
          have hR1 : 128 < (bl (rt z e mode).1 : Int) + Q → rnd z e mode = (ovr (sgn z) mode, 5) := fun h => by
            have hov := HOV.out
            rw [HQ.out] at h
            unfold rnd
            rw [if_neg h0, if_neg (by omega), if_pos h]
          have hR2 : ¬ 128 < (bl (rt z e mode).1 : Int) + Q → rnd z e mode = (Ieee.single.nearest (decide (z < 0)) (rt z e mode).1 Q, (rt z e mode).2) := fun h => by
            have hov := HOV.out
            rw [HQ.out] at h ⊢
            unfold rnd
            rw [if_neg h0, if_neg (by omega), if_neg h]
          have HR1 := Lib.hid hR1
          have HR2 := Lib.hid hR2
          clear hR1 hR2 c0 c1 d0 e0
          generalize (rt z e mode).1 = t at *
          generalize (rt z e mode).2 = F at *
          have hbt : bl t ≤ 25 := bl_le (by omega)
          have hBL := Me.bitLen (HX.out.get (.head _)) (by rw [Int.natAbs_natCast]; omega)
          rw [Int.natAbs_natCast] at hBL
          have HBL := Lib.hid hBL
          clear hBL
          by_cases hov2 : 128 < (bl t : Int) + Q
          · have HR := Lib.hid (HR1.out hov2)
            clear HR1 HR2
            go_wp2_with fail
            refine HBL.out.mono ?_
            rintro en w8 ⟨rfl, hd⟩
            have H8 := Lib.hid (HX.out.below (tells_below hd))
            clear hd
            go_wp2_with fail
            refine (HO.out _ H8.out.1).mono ?_
            rintro en w9 ⟨rfl, rfl⟩
            go_wp2
            go_ret2
            exact ⟨by rw [HR.out]; rfl, (stay.out _ H8.out.1).2.2.2.2⟩
          · have HR := Lib.hid (HR2.out hov2)
            have HNG := Lib.hid (negT htl hq0 (by omega) hq1)
            have HC := Lib.hid (fun (r : Nat) (h : IsN Ieee.double r false (V t Q)) (W : World) => convT h htl hq0 (by omega) hq1 W)
            have HLD := Lib.hid (fun (W : World) => ldexpT htl hq0 hq1 W)
            clear HR1 HR2
            go_wp2_with fail
            refine HBL.out.mono ?_
            rintro en w8 ⟨rfl, hd⟩
            have H8 := Lib.hid (HX.out.below (tells_below hd))
            have HI := Lib.hid (Mk.int64 (H8.out.get (.head _)) (by omega) (by omega))
            obtain ⟨⟨c0, c1⟩, d0, e0, -, -⟩ := stay.out _ H8.out.1
            clear hd
            go_wp2_with fail
            refine HI.out.mono ?_
            rintro en w9 ⟨rfl, rfl⟩
            go_wp2_with fail
            refine (HLD.out _).mono ?_
            rintro en w9 ⟨⟨r, rfl, hr⟩, rfl⟩
            have hc := HC.out r hr
            clear hr
            rcases hs1 with hs1 | hs1
            · rw [hs1] at e0
              have hz : ¬ z < 0 := by have := sgn_cases z; omega
              have HR' := Lib.hid (show rnd z e mode = (Ieee.single.nearest false t Q, F) by rw [HR.out, decide_eq_false hz])
              clear hz
              go_wp2
              go_ret2
              exact ⟨by rw [HR'.out]; rfl, (stay.out _ H8.out.1).2.2.2.2⟩
            · rw [hs1] at e0
              have hz : z < 0 := by have := sgn_cases z; omega
              have HR' := Lib.hid (show rnd z e mode = (Ieee.single.nearest true t Q, F) by rw [HR.out, decide_eq_true hz])
              clear hz
              go_wp2
              go_ret2
              exact ⟨by rw [HR'.out, ← HNG.out]; rfl, (stay.out _ H8.out.1).2.2.2.2⟩
end Go.Proofs.YtjggbalhpflbbaaGreat.Nr
end
section
set_option linter.unusedVariables false
set_option linter.unusedSimpArgs false
namespace Go.Proofs.YtjggbalhpflbbaaGreat.Hc
open Go.RowKit Go.Proofs.YtjggbalhpflbbaaGreatW.PrintWords Go.Proofs.YtjggbalhpflbbaaGreatW.PrintLast Go.Proofs.YtjggbalhpflbbaaGreatW.PrintMore Go.Proofs.YtjggbalhpflbbaaGreat.PW Go.Proofs.YtjggbalhpflbbaaGreat.Pb Go.Proofs.YtjggbalhpflbbaaGreat.Pc Go.Proofs.YtjggbalhpflbbaaGreat.Pm Go.Proofs.YtjggbalhpflbbaaGreat.Pw Go.Proofs.YtjggbalhpflbbaaGreat.Ps Go.Proofs.YtjggbalhpflbbaaGreat.Px Go.Proofs.YtjggbalhpflbbaaGreat.Pv Go.Proofs.YtjggbalhpflbbaaGreat.Pz Go.Proofs.YtjggbalhpflbbaaGreat.Ss Go.Proofs.YtjggbalhpflbbaaGreat.Ma Go.Proofs.YtjggbalhpflbbaaGreat.Mh Go.Proofs.YtjggbalhpflbbaaGreat.Mu Go.Proofs.YtjggbalhpflbbaaGreat.Mn Go.Proofs.YtjggbalhpflbbaaGreat.Na Go.Proofs.YtjggbalhpflbbaaGreat.Ln Go.Proofs.YtjggbalhpflbbaaGreat.Nr Go.Proofs.YtjggbalhpflbbaaGreat.Re Go.Proofs.YtjggbalhpflbbaaGreat.Rf Go.Proofs.YtjggbalhpflbbaaGreat.Sl Dg
set_option maxRecDepth 20000 in
set_option maxHeartbeats 1600000 in
theorem handMult {w : World} {A : Option Addr} {c : Nat} {z e mode : Int} (h0 : z ≠ 0) (ho : z.natAbs % 2 = 1) (hb : bl z.natAbs ≤ 100000) (h1 : -100000 ≤ e) (h2 : e ≤ 100000) (h3 : 0 ≤ mode) (h4 : mode ≤ 4)
    (hC : (Kd.int .i64).C w A (L z.natAbs).length (L z.natAbs)) (hc : (L z.natAbs).length ≤ c) :
    Calls Tryz.prog 29 #[.agg #[.int .i64 (sgn z), .slice A (L z.natAbs).length c, .int .i64 e], .int .i64 mode] w fun en w' => ∃ u, en = .returned (.tuple #[.agg #[.int .i64 (sgn ((rt z e mode).1 : Int)), u], .int .i64 (rq (bl z.natAbs) e), .bool (decide (rq (bl z.natAbs) e ≤ e))]) ∧ Kd.R (Kd.int .i64) 2 w' w.heap.size (fun _ => True) u (L (rt z e mode).1) ∧ Below w.heap.size w w' := by
  have hs1 : sgn (z.natAbs : Int) = 1 := by unfold sgn; rw [if_neg (by omega), if_neg (by omega)]
  obtain ⟨K1, hK1⟩ := (sabs z (by omega)).rounds
  rw [hs1] at hK1
  obtain ⟨K2, hK2⟩ := (slength 1 z.natAbs (by omega)).rounds
  have HABS := Lib.hid (fun (W : World) (hb : Below w.heap.size w W) => spec_l02Abs.calls K1 (sgn z) A c (L z.natAbs) _ _ W (C_at hC hb) hc hK1)
  have HLEN := Lib.hid (fun (W : World) (B : Option Addr) (d : Nat) (hB : (Kd.int .i64).C W B (L z.natAbs).length (L z.natAbs)) (hd : (L z.natAbs).length ≤ d) => spec_l02Length.calls K2 1 B d (L z.natAbs) _ W hB hd hK2)
  have HM := Lib.hid (((Mem.nil w).box 30 #[.int .i64 (sgn z), .slice A (L z.natAbs).length c, .int .i64 e]).box 28 #[.int .i64 0, .slice none 0 0])
  obtain ⟨Q, hQ⟩ : ∃ Q, Q = rq (bl z.natAbs) e := ⟨_, rfl⟩
  have hQ0 : -149 ≤ Q := by rw [hQ]; exact (rq_bd _ _).1
  have hQu : Q ≤ 300000 := by rw [hQ]; unfold rq; split <;> omega
  have q1 : (bl z.natAbs : Int) + e - 24 < -149 → Q = -149 := fun h => by rw [hQ]; unfold rq; rw [if_pos h]
  have q2 : ¬ (bl z.natAbs : Int) + e - 24 < -149 → Q = (bl z.natAbs : Int) + e - 24 := fun h => by rw [hQ]; unfold rq; rw [if_neg h]
  have HQ1 := Lib.hid q1
  have HQ2 := Lib.hid q2
  have HQ := Lib.hid hQ
  rw [← hQ]
  obtain ⟨t, ht⟩ : ∃ t, t = (rt z e mode).1 := ⟨_, rfl⟩
  rw [← ht]
  have HT := Lib.hid ht
  generalize hex : decide (Q ≤ e) = ex
  have HEX := Lib.hid hex
  clear ht hex
  clear hK1 hK2 hC hc q1 q2 hQ
  rw [Mu.alloc_size] at HM
  generalize hn : (L z.natAbs).length = n at *
  have HN := Lib.hid hn
  clear hn
  generalize hW : (w.alloc (.cells #[.int .i64 (sgn z), .slice A n c, .int .i64 e] 30)).alloc (.cells #[.int .i64 0, .slice none 0 0] 28) = W0 at HM
  have HW := Lib.hid hW
  clear hW
  go_enter Tryz.func29, Tryz.ntmps29
  go_upto_region 1 with fail
  rw [HW.out]
  clear HW
  obtain ⟨c0, c1, c2, _⟩ := HM.out.cells3 (.tail _ (.head _))
  go_wp2_with fail
  refine (HABS.out _ HM.out.1).mono ?_
  rintro en w1 ⟨u, rfl, hR, hb⟩
  obtain ⟨A1, d1, rfl⟩ := Kd.R_slice hR
  have HM1 := Lib.hid (Mem.row HM.out hR hb)
  clear hR hb HM c0 c1 c2
  rw [HN.out]
  go_upto_region 2 with fail
  have HM2 := Lib.hid (Mem.box HM1.out 28 #[.int .i64 1, .slice A1 n d1])
  clear HM1
  generalize hW : w1.alloc (.cells #[.int .i64 1, .slice A1 n d1] 28) = w2 at HM2 ⊢
  clear hW
  generalize hb7 : w1.heap.size = b7 at HM2 ⊢
  obtain ⟨c0, c1, c2, _⟩ := HM2.out.cells3 (.tail _ (.tail _ (.tail _ (.head _))))
  obtain ⟨x0, x1, _⟩ := HM2.out.cells (.head _)
  have hRD : (Kd.int .i64).C w2 A1 (L z.natAbs).length (L z.natAbs) ∧ (L z.natAbs).length ≤ d1 := HM2.out.reads (.tail _ (.head _))
  rw [HN.out] at hRD
  have HRD := Lib.hid hRD
  have hml := HM2.out.list
  obtain ⟨ES, hml, hes⟩ := hml
  have HML := Lib.hid hml
  have HES := Lib.hid hes
  clear hml hes hRD HM2 hb7
  go_cut [8] (fun v8 wx => v8 = .int .i64 Q ∧ Hid (Mem w wx ES))
  case first =>
    have hw1 : IntKind.i64.wrap ((bl z.natAbs : Int) + e) = (bl z.natAbs : Int) + e := i64_id (by omega) (by omega)
    have hw2 : IntKind.i64.wrap ((bl z.natAbs : Int) + e - 24) = (bl z.natAbs : Int) + e - 24 := i64_id (by omega) (by omega)
    by_cases hh : (bl z.natAbs : Int) + e - 24 < -149
    all_goals
      go_region_held3 (fun w' => (w'.cell? ⟨w.heap.size, 0, none⟩ = some (.int .i64 (sgn z)) ∧ w'.cell? ⟨w.heap.size, 1, none⟩ = some (.slice A n c) ∧ w'.cell? ⟨w.heap.size, 2, none⟩ = some (.int .i64 e)) ∧ w'.cell? ⟨b7, 0, none⟩ = some (.int .i64 1) ∧ w'.cell? ⟨b7, 1, none⟩ = some (.slice A1 n d1)) (go_keep)
        (first
          | (go_at_call 30; refine (HLEN.out _ A1 d1 (by first | exact HRD.out.1 | exact Kd.C_drew HRD.out.1) HRD.out.2).mono ?_; rintro en w3 ⟨rfl, hb⟩; have hm3 := Mem.below (show Mem w _ ES by first | exact HML.out | exact HML.out.drew) hb; have HM3 := Lib.hid hm3; rw [HES.out] at hm3; obtain ⟨c0, c1, c2, _⟩ := hm3.cells3 (.tail _ (.tail _ (.tail _ (.head _)))); obtain ⟨x0, x1, _⟩ := hm3.cells (.head _); clear hm3 hb))
    all_goals go_wp2
    all_goals go_meet
    · exact ⟨by rw [HQ1.out (by omega)], HM3⟩
    · exact ⟨by rw [HQ2.out (by omega)], HM3⟩
  case rest =>
    obtain ⟨rfl, HM3⟩ := hcut
    have hm4 := HM3.out
    rw [HES.out] at hm4
    have HM4 := Lib.hid hm4
    clear hm4 HM3 HML HES HRD c0 c1 c2 x0 x1
    obtain ⟨c0, c1, c2, y0⟩ := HM4.out.cells3 (.tail _ (.tail _ (.tail _ (.head _))))
    obtain ⟨x0, x1, y7⟩ := HM4.out.cells (.head _)
    obtain ⟨v0, v1, y1⟩ := HM4.out.cells (.tail _ (.tail _ (.head _)))
    obtain ⟨f0, f1⟩ := HM4.out.lts (.tail _ (.tail _ (.head _)))
    have hrd := HM4.out.reads (.tail _ (.head _))
    rw [HN.out] at hrd
    have HRD := Lib.hid hrd
    clear hrd
    by_cases hA : Q ≤ e
    · have htA : t = z.natAbs * 2 ^ (e - Q).toNat := by rw [HT.out, Nr.rt_up (mode := mode) HQ.out hA]
      have hext : ex = true := by rw [← HEX.out]; exact decide_eq_true hA
      subst hext
      have ek : -(Q - e) = (((e - Q).toNat : Nat) : Int) := by omega
      have hl := sleft (z.natAbs : Int) (e - Q).toNat (by rw [Int.natAbs_natCast]; omega) (by omega)
      rw [Int.natAbs_natCast, show (z.natAbs : Int) * 2 ^ (e - Q).toNat = ((z.natAbs * 2 ^ (e - Q).toNat : Nat) : Int) by push_cast; rfl, Int.natAbs_natCast, hs1, ← ek, ← htA] at hl
      obtain ⟨K3, hK3⟩ := hl.rounds
      have hL := fun (W : World) (hC : (Kd.int .i64).C W A1 (L z.natAbs).length (L z.natAbs)) (hd : (L z.natAbs).length ≤ d1) => spec_l02Left.calls K3 1 A1 d1 (L z.natAbs) (-(Q - e)) _ _ W hC hd hK3
      rw [HN.out] at hL
      have HL := Lib.hid hL
      clear hL hK3 hl ek htA
      go_wp2_with fail
      refine (HL.out _ HRD.out.1 HRD.out.2).mono ?_
      rintro en w4 ⟨u4, rfl, hR, hb⟩
      obtain ⟨A4, d4, rfl⟩ := Kd.R_slice hR
      have HM5 := Lib.hid (Mem.row HM4.out hR hb)
      clear hR hb HM4 c0 c1 c2 x0 x1 v0 v1 f0 f1
      obtain ⟨v0, v1, y1⟩ := HM5.out.cells (.tail _ (.tail _ (.tail _ (.head _))))
      obtain ⟨f0, f1⟩ := HM5.out.lts (.tail _ (.tail _ (.tail _ (.head _))))
      go_wp2
      have hf := Mem.fill (bf := [_, _, _]) (u' := .int .i64 (sgn (t : Int))) (v' := .slice A4 (L t).length d4) HM5.out (by omega)
      exact bodyPost_ret (results_ctt rfl _ _ (w.heap.size + 1) 28 #[.int .i64 (sgn (t : Int)), .slice A4 (L t).length d4] (0, 0) _ rfl (hf.2.1 _ (.tail _ (.tail _ (.tail _ (.head _))))).1 Tryz.underlying28 rfl sizeW) rfl ⟨_, rfl, Kd.R_mono (hf.own (.head _)) (fun _ _ => trivial), hf.1⟩
    · obtain ⟨d, hd⟩ : ∃ d : Nat, (d : Int) = Q - e := ⟨(Q - e).toNat, by omega⟩
      have hd1 : 1 ≤ d := by omega
      have hd2 : d ≤ 500000 := by omega
      have hext : ex = false := by rw [← HEX.out]; exact decide_eq_false (by omega)
      subst hext
      have hcu := scut 1 z.natAbs d (by omega) (by omega)
      have hk := smk_of (s := 1) (z := ((z.natAbs / 2 ^ d : Nat) : Int)) (fun h => by have hp := Int.natCast_nonneg (z.natAbs / 2 ^ d); unfold sgn; rw [if_neg (Int.not_lt.2 hp), if_neg h])
      rw [Int.natAbs_natCast] at hk
      rw [hk, hd] at hcu
      obtain ⟨K4, hK4⟩ := hcu.rounds
      have hCU := fun (W : World) (hC : (Kd.int .i64).C W A1 (L z.natAbs).length (L z.natAbs)) (hh : (L z.natAbs).length ≤ d1) => spec_l02Cut.calls K4 1 A1 d1 (L z.natAbs) (Q - e) _ _ W hC hh hK4
      rw [HN.out] at hCU
      have HCU := Lib.hid hCU
      have hb1 := sbit 1 z.natAbs (d - 1) (by omega) (by omega)
      rw [show ((d - 1 : Nat) : Int) = Q - e - 1 by omega] at hb1
      have hBI := fun (W : World) (hC : (Kd.int .i64).C W A1 (L z.natAbs).length (L z.natAbs)) (hh : (L z.natAbs).length ≤ d1) => spec_l02Bit.calls 1 A1 d1 (L z.natAbs) (Q - e - 1) _ W hC hh hb1
      rw [HN.out] at hBI
      have HBI := Lib.hid hBI
      obtain ⟨U, hU⟩ : ∃ U : Bool, U = ups mode (sgn z) (z.natAbs / 2 ^ d) (z.natAbs % 2 ^ d) (2 ^ (d - 1)) := ⟨_, rfl⟩
      have htB : t = z.natAbs / 2 ^ d + (if U = true then 1 else 0) := by rw [HT.out, Nr.rt_cut (mode := mode) HQ.out (by omega) hd (odd_mod ho hd1), ← hU]
      rw [ups_odd mode (sgn z) ho hd1] at hU
      have hbm : bl (z.natAbs / 2 ^ d) ≤ 100000 := Nat.le_trans (bl_mono (Nat.div_le_self _ _)) hb
      have hb2 := sbit (sgn ((z.natAbs / 2 ^ d : Nat) : Int)) (z.natAbs / 2 ^ d) 0 (by omega) (by omega)
      rw [show ((0 : Nat) : Int) = 0 from rfl, Nat.pow_zero, Nat.div_one] at hb2
      have HBJ := Lib.hid (fun (W : World) (B : Option Addr) (c : Nat) (hC : (Kd.int .i64).C W B (L (z.natAbs / 2 ^ d)).length (L (z.natAbs / 2 ^ d))) (hh : (L (z.natAbs / 2 ^ d)).length ≤ c) => spec_l02Bit.calls (sgn ((z.natAbs / 2 ^ d : Nat) : Int)) B c (L (z.natAbs / 2 ^ d)) 0 _ W hC hh hb2)
      obtain ⟨K5, hK5⟩ := (sof 1 (by decide) (by decide)).rounds
      have hka := sadd ((z.natAbs / 2 ^ d : Nat) : Int) 1 (by rw [Int.natAbs_natCast]; omega) (by decide)
      rw [Int.natAbs_natCast, show (((z.natAbs / 2 ^ d : Nat) : Int) + 1) = ((z.natAbs / 2 ^ d + 1 : Nat) : Int) by push_cast; rfl, Int.natAbs_natCast] at hka
      obtain ⟨K6, hK6⟩ := hka.rounds
      have HOF := Lib.hid (fun (W : World) => spec_l02Of.calls K5 1 _ _ W hK5)
      have HAD := Lib.hid (fun (W : World) (A : Option Addr) (c : Nat) (B : Option Addr) (q : Nat) (hA : (Kd.int .i64).C W A (L (z.natAbs / 2 ^ d)).length (L (z.natAbs / 2 ^ d))) (hc : (L (z.natAbs / 2 ^ d)).length ≤ c) (hB : (Kd.int .i64).C W B (L (Int.natAbs 1)).length (L (Int.natAbs 1))) (hq : (L (Int.natAbs 1)).length ≤ q) => Ha.handAdd2 K6 _ A c _ _ B q _ _ _ W hA hc hB hq hK6)
      have HU := Lib.hid hU
      have HTB := Lib.hid htB
      have hbt3 : z.natAbs / 2 ^ (d - 1) % 2 < 2 := Nat.mod_lt _ (by decide)
      generalize z.natAbs / 2 ^ (d - 1) % 2 = bt at *
      have hbt2 : U = (if mode = 0 then decide (bt = 1 ∧ (1 < d ∨ z.natAbs / 2 ^ d % 2 = 1)) else if mode = 1 then decide (sgn z < 0) else if mode = 2 then decide (0 < sgn z) else decide (mode = 4)) := HU.out
      have HU := Lib.hid hbt2
      clear hcu hk hK4 hCU hb1 hBI hU htB hb2 hK5 hka hK6 hbt2
      generalize z.natAbs / 2 ^ d = m at *
      go_wp2_with fail
      refine (HCU.out _ HRD.out.1 HRD.out.2).mono ?_
      rintro en w4 ⟨u4, rfl, hR, hb4⟩
      obtain ⟨A4, d4, rfl⟩ := Kd.R_slice hR
      have HM5 := Lib.hid (Mem.row HM4.out hR hb4)
      clear hR hb4 HM4 c0 c1 c2 x0 x1 v0 v1 f0 f1
      have hsz4 := HM5.out.1.size
      go_upto_region 7 with fail
      have HM6 := Lib.hid (Mem.box HM5.out 28 #[.int .i64 (sgn (m : Int)), .slice A4 (L m).length d4])
      clear HM5
      generalize hW : w4.alloc (.cells #[.int .i64 (sgn (m : Int)), .slice A4 (L m).length d4] 28) = w5 at HM6 ⊢
      clear hW
      have hb10w : w.heap.size ≤ w4.heap.size := by exact hsz4
      generalize hb10 : w4.heap.size = b10 at HM6 hb10w ⊢
      clear hb10
      obtain ⟨c0, c1, c2, y0⟩ := HM6.out.cells3 (.tail _ (.tail _ (.tail _ (.tail _ (.tail _ (.head _))))))
      obtain ⟨x0, x1, y7⟩ := HM6.out.cells (.tail _ (.tail _ (.head _)))
      obtain ⟨k0, k1, y10⟩ := HM6.out.cells (.head _)
      obtain ⟨ES2, hml, hes⟩ := HM6.out.list
      have HML := Lib.hid hml
      have HES := Lib.hid hes
      clear hml hes
      have hrd6 := HM6.out.reads (.tail _ (.tail _ (.tail _ (.head _))))
      rw [HN.out] at hrd6
      have HRD6 := Lib.hid hrd6
      clear hrd6
      go_upto_block 0 with fail
      go_cut [11] (fun v11 wx => v11 = .bool U ∧ Hid (Mem w wx ES2))
      case first =>
        have hm5 : mode = 0 ∨ mode = 1 ∨ mode = 2 ∨ mode = 3 ∨ mode = 4 := by omega
        rcases hm5 with rfl | rfl | rfl | rfl | rfl
        · have hu := HU.out
          rw [if_pos rfl] at hu
          have HU2 := Lib.hid hu
          clear hu
          go_wp2_with fail
          refine (HBI.out _ HRD6.out.1 HRD6.out.2).mono ?_
          rintro en w6 ⟨rfl, hb6⟩
          have HM7 := Lib.hid (Mem.below HM6.out hb6)
          clear hb6 c0 c1 c2 x0 x1 k0 k1
          obtain ⟨k0, k1, y10⟩ := HM7.out.cells (.head _)
          have HM8 := Lib.hid (show Mem w w6 ES2 by rw [HES.out]; exact HM7.out)
          have hbt4 : bt = 0 ∨ bt = 1 := by omega
          rcases hbt4 with rfl | rfl
          · have hu : U = false := by rw [HU2.out]; exact decide_eq_false (fun hh => absurd hh.1 (by decide))
            go_wp2_with fail
            go_meet
            exact ⟨by rw [hu], HM8⟩
          · by_cases hdd : 1 < d
            · have hu : U = true := by rw [HU2.out]; exact decide_eq_true ⟨rfl, .inl hdd⟩
              have hq3 : 1 < Q - e := by omega
              go_wp2_with fail
              go_meet
              exact ⟨by rw [hu], HM8⟩
            · have hq3 : Q - e ≤ 1 := by omega
              have hu : U = decide (m % 2 = 1) := by
                rw [HU2.out, Bool.eq_iff_iff, decide_eq_true_iff, decide_eq_true_iff]
                exact ⟨fun hh => hh.2.resolve_left hdd, fun hh => ⟨rfl, .inr hh⟩⟩
              have HU3 := Lib.hid hu
              have HRJ := Lib.hid (HM7.out.reads (.tail _ (.head _)))
              clear hu
              go_wp2_with fail
              refine (HBJ.out _ _ _ HRJ.out.1 HRJ.out.2).mono ?_
              rintro en w7 ⟨rfl, hb7'⟩
              have HM9 := Lib.hid (Mem.below HM8.out hb7')
              clear hb7' k0 k1
              rcases Nat.mod_two_eq_zero_or_one m with hm2 | hm2
              · have hu : U = false := by rw [HU3.out, hm2]; rfl
                rw [hm2]
                clear hm2
                go_wp2_with fail
                go_meet
                exact ⟨by rw [hu, decide_eq_false (by omega)], HM9⟩
              · have hu : U = true := by rw [HU3.out, hm2]; rfl
                rw [hm2]
                clear hm2
                go_wp2_with fail
                go_meet
                exact ⟨by rw [hu], HM9⟩
        · have hu : U = decide (sgn z < 0) := by rw [HU.out, if_neg (by decide), if_pos rfl]
          go_wp2_with fail
          go_meet
          exact ⟨by rw [hu], HML⟩
        · have hu : U = decide (0 < sgn z) := by rw [HU.out, if_neg (by decide), if_neg (by decide), if_pos rfl]
          go_wp2_with fail
          go_meet
          exact ⟨by rw [hu], HML⟩
        · have hu : U = false := by rw [HU.out, if_neg (by decide), if_neg (by decide), if_neg (by decide)]; rfl
          go_wp2_with fail
          go_meet
          exact ⟨by rw [hu], HML⟩
        · have hu : U = true := by rw [HU.out, if_neg (by decide), if_neg (by decide), if_neg (by decide)]; rfl
          go_wp2_with fail
          go_meet
          exact ⟨by rw [hu], HML⟩
      case rest =>
        obtain ⟨rfl, HM7⟩ := hcut
        have hm7 := HM7.out
        rw [HES.out] at hm7
        have HM8 := Lib.hid hm7
        clear hm7 HM7 HML HES HM6 HRD6 c0 c1 c2 x0 x1 k0 k1
        obtain ⟨k0, k1, y10⟩ := HM8.out.cells (.head _)
        obtain ⟨kf0, kf1⟩ := HM8.out.lts (.head _)
        obtain ⟨v0, v1, y1⟩ := HM8.out.cells (.tail _ (.tail _ (.tail _ (.tail _ (.head _)))))
        obtain ⟨f0, f1⟩ := HM8.out.lts (.tail _ (.tail _ (.tail _ (.tail _ (.head _)))))
        cases hu : U with
        | false =>
          subst hu
          have htm : t = m := by rw [HTB.out, if_neg (by decide)]; rfl
          subst htm
          clear HTB HT HU
          go_wp2
          have hf := Mem.fill (bf := [_, _, _, _]) (u' := .int .i64 (sgn (t : Int))) (v' := .slice A4 (L t).length d4) HM8.out (by omega)
          exact bodyPost_ret (results_ctt rfl _ _ (w.heap.size + 1) 28 #[.int .i64 (sgn (t : Int)), .slice A4 (L t).length d4] (0, 0) _ rfl (hf.2.1 _ (.tail _ (.tail _ (.tail _ (.tail _ (.head _)))))).1 Tryz.underlying28 rfl sizeW) rfl ⟨_, rfl, Kd.R_mono (hf.own (.tail _ (.head _))) (fun _ _ => trivial), hf.1⟩
        | true =>
          subst hu
          have htm : t = m + 1 := by rw [HTB.out, if_pos rfl]
          subst htm
          obtain ⟨s0, -⟩ := HM8.out.cells3 (.tail _ (.tail _ (.tail _ (.tail _ (.tail _ (.head _))))))
          clear HTB HT HU
          go_upto_region 17 with fail
          go_region_law (first
              | (go_simp; go_at_call 38; refine (HOF.out _).mono ?_; rintro en w7 ⟨u7, rfl, hR, hb⟩; obtain ⟨A7, d7, rfl⟩ := Kd.R_slice hR; have HM9 := Lib.hid (Mem.row (show Mem w _ _ by first | exact HM8.out | exact HM8.out.drew) hR hb); clear hR hb; obtain ⟨k0, k1, y10⟩ := HM9.out.cells (.tail _ (.head _)); obtain ⟨kf0, kf1⟩ := HM9.out.lts (.tail _ (.head _)); obtain ⟨v0, v1, y1⟩ := HM9.out.cells (.tail _ (.tail _ (.tail _ (.tail _ (.tail _ (.head _)))))))
              | (go_simp; go_at_call 59; refine (HAD.out _ _ _ _ _ (HM9.out.reads (.tail _ (.tail _ (.head _)))).1 (HM9.out.reads (.tail _ (.tail _ (.head _)))).2 (HM9.out.reads (.head _)).1 (HM9.out.reads (.head _)).2).mono ?_; rintro en w8 ⟨u8, rfl, hR, hb⟩; obtain ⟨A8, d8, rfl⟩ := Kd.R_slice hR; have HM10 := Lib.hid (Mem.row HM9.out hR hb); clear hR hb; obtain ⟨k0, k1, y10⟩ := HM10.out.cells (.tail _ (.tail _ (.head _))); obtain ⟨kf0, kf1⟩ := HM10.out.lts (.tail _ (.tail _ (.head _))); obtain ⟨v0, v1, y1⟩ := HM10.out.cells (.tail _ (.tail _ (.tail _ (.tail _ (.tail _ (.tail _ (.head _)))))))))
          all_goals
            have hf1 := Mem.fill (bf := [_, _]) (u' := .int .i64 (sgn ((m : Int) + 1))) (v' := .slice A8 (L (m + 1)).length d8) HM10.out hb10w
            generalize (w8.setCell ⟨b10, 0, none⟩ (.int .i64 (sgn ((m : Int) + 1)))).setCell ⟨b10, 1, none⟩ (.slice A8 (L (m + 1)).length d8) = w9 at hf1 ⊢
            have HF1 := Lib.hid hf1
            obtain ⟨k0, k1, y10⟩ := hf1.cells (.tail _ (.tail _ (.head _)))
            obtain ⟨v0, v1, y1⟩ := hf1.cells (.tail _ (.tail _ (.tail _ (.tail _ (.tail _ (.tail _ (.head _)))))))
            obtain ⟨f0, f1⟩ := hf1.lts (.tail _ (.tail _ (.tail _ (.tail _ (.tail _ (.tail _ (.head _)))))))
            clear hf1
            go_wp2
            have hf := Mem.fill (bf := [_, _, _, _, _, _]) (u' := .int .i64 (sgn ((m : Int) + 1))) (v' := .slice A8 (L (m + 1)).length d8) HF1.out (by omega)
            exact bodyPost_ret (results_ctt rfl _ _ (w.heap.size + 1) 28 #[.int .i64 (sgn ((m : Int) + 1)), .slice A8 (L (m + 1)).length d8] (0, 0) _ rfl (hf.2.1 _ (.tail _ (.tail _ (.tail _ (.tail _ (.tail _ (.tail _ (.head _)))))))).1 Tryz.underlying28 rfl sizeW) rfl ⟨_, rfl, Kd.R_mono (hf.own (.head _)) (fun _ _ => trivial), hf.1⟩
end Go.Proofs.YtjggbalhpflbbaaGreat.Hc
end
section
set_option linter.unusedVariables false
set_option linter.unusedSimpArgs false
namespace Go.Proofs.YtjggbalhpflbbaaGreat.Nd
open Go.RowKit Go.Proofs.YtjggbalhpflbbaaGreatW.PrintWords Go.Proofs.YtjggbalhpflbbaaGreat.PW Go.Proofs.YtjggbalhpflbbaaGreat.Pc Go.Proofs.YtjggbalhpflbbaaGreat.Pb Go.Proofs.YtjggbalhpflbbaaGreat.Pw Go.Proofs.YtjggbalhpflbbaaGreat.Ma Go.Proofs.YtjggbalhpflbbaaGreat.Mb Go.Proofs.YtjggbalhpflbbaaGreat.Mc Go.Proofs.YtjggbalhpflbbaaGreat.Md Go.Proofs.YtjggbalhpflbbaaGreat.Me Go.Proofs.YtjggbalhpflbbaaGreat.Mg Go.Proofs.YtjggbalhpflbbaaGreat.Mh Go.Proofs.YtjggbalhpflbbaaGreat.Mk Go.Proofs.YtjggbalhpflbbaaGreat.Mn Go.Proofs.YtjggbalhpflbbaaGreat.Mo Go.Proofs.YtjggbalhpflbbaaGreat.Mu Go.Proofs.YtjggbalhpflbbaaGreat.Na Go.Proofs.YtjggbalhpflbbaaGreat.Nb Dg
open Pm (sgn)
theorem sgn_eq0 {z : Int} : (sgn z = 0) = (z = 0) := by
  apply propext
  unfold Pm.sgn
  split
  · omega
  · split <;> omega
set_option maxHeartbeats 400000 in
theorem nzero {w : World} : Calls Tryz.prog 87 #[] w (GivesN w 0 0) := by
  obtain ⟨W0, hW0⟩ : ∃ W0, W0 = w.alloc (.cells #[.pointer none, .int .i64 0] 50) := ⟨_, rfl⟩
  obtain ⟨hb0, hx0, hs0⟩ := boxes1 w (.cells #[.pointer none, .int .i64 0] 50) W0 (by rw [hW0]; exact Below.refl _ _)
  have hx1 := ((Ma.waq W0 (.cells #[.bool false, .slice none 0 0] 94)).block _ (show w.heap.size < W0.heap.size by omega)).trans hx0
  have HX1 := Lib.hid hx1
  have HB1 := Lib.hid (below_then hb0 (Ma.waq W0 (.cells #[.bool false, .slice none 0 0] 94)))
  have HW := Lib.hid hW0
  obtain ⟨c0, c1, f0, f1, l0⟩ := cellsN hx1
  clear hb0 hx0 hx1 hW0
  go_enter Tryz.func87, Tryz.ntmps87
  go_upto_region 1 with fail
  rw [← HW.out]
  clear HW
  go_wp2
  have hst := storedN (q := W0.heap.size) (z := 0) (e := 0) HX1.out HB1.out (Nat.le_refl _) (Z.new W0)
  exact bodyPost_ret (results_single rfl (.cell w.heap.size 50 #[.pointer (some ⟨W0.heap.size, 0, none⟩), .int .i64 0] (0, 0) _ rfl hst.1 Tryz.underlying50 rfl sizeN .nil)) rfl ⟨_, rfl, hst.2.1, hst.2.2⟩
def oddz (z : Int) : Int := z / 2 ^ tz z.natAbs
def odde (z e : Int) : Int := if z = 0 then 0 else e + (tz z.natAbs : Nat)
set_option maxRecDepth 20000 in
set_option maxHeartbeats 1600000 in
theorem nodd {w : World} {q : Nat} {z e : Int} (hz : Z w q z) (hb : bl z.natAbs ≤ 268435456) (h1 : -1000000 ≤ e) (h2 : e ≤ 1000000) :
    Calls Tryz.prog 48 #[.agg #[.pointer (some ⟨q, 0, none⟩), .int .i64 e]] w (GivesN w (oddz z) (odde z e)) := by
  obtain ⟨W0, hW0⟩ : ∃ W0, W0 = (w.alloc (.cells #[.pointer (some ⟨q, 0, none⟩), .int .i64 e] 50)).alloc (.cells #[.pointer none, .int .i64 0] 50) := ⟨_, rfl⟩
  obtain ⟨hb0, hx0, hx1, hs0⟩ := boxes2 w (.cells #[.pointer (some ⟨q, 0, none⟩), .int .i64 e] 50) (.cells #[.pointer none, .int .i64 0] 50) W0 (by rw [hW0]; exact Below.refl _ _)
  have zx := hz.below hb0
  obtain ⟨c0, c1, _, _, l0⟩ := cellsN hx0
  obtain ⟨d0, d1, f0, f1, l1⟩ := cellsN hx1
  have HS := Lib.hid (fun (W : World) (hb : Below W0.heap.size W0 W) => nsign (e := e) (zx.below hb))
  have stay := Lib.hid (fun (W : World) (hb : Below W0.heap.size W0 W) => (⟨cellsN ((hb.block _ l0).trans hx0), cellsN ((hb.block _ l1).trans hx1), (hb.block _ l1).trans hx1, hb0.trans (hb.mono (Nat.le_trans (by omega) hs0))⟩ : _ ∧ _ ∧ _ ∧ Below w.heap.size w W))
  have HW := Lib.hid hW0
  clear hz hb0 hx0 hx1 hW0
  by_cases h0 : z = 0
  · have es : sgn z = 0 := by rw [sgn_eq0]; exact h0
    have ez : oddz z = 0 := by unfold oddz; rw [h0, Int.zero_ediv]
    have ee : odde z e = 0 := by unfold odde; rw [if_pos h0]
    rw [ez, ee]
    rw [es] at HS
    clear es ez ee h0 zx
    go_enter Tryz.func48, Tryz.ntmps48
    go_upto_region 1 with fail
    rw [← HW.out]
    clear HW
    go_wp2_with fail
    refine (HS.out W0 (Below.refl _ _)).mono ?_
    rintro en w1 ⟨rfl, hb1⟩
    obtain ⟨⟨p0, p1, _, _, p2⟩, ⟨t0, t1, t2, t3, t4⟩, hx1, hbw⟩ := stay.out w1 hb1
    have HB1 := Lib.hid hb1
    clear hx1 hbw hb1
    go_wp2_with fail
    refine nzero.mono ?_
    rintro en w2 ⟨g, rfl, hz2, hb2⟩
    have hb12 := below_then HB1.out hb2
    clear p0 p1 p2 t0 t1 t2 t3 t4 HB1 hb2
    obtain ⟨⟨p0, p1, _, _, p2⟩, ⟨t0, t1, t2, t3, t4⟩, hx1, hbw⟩ := stay.out w2 hb12
    have HX2 := Lib.hid hx1
    have HB2 := Lib.hid hbw
    have HZ2 := Lib.hid hz2
    clear hx1 hbw hb12 hz2
    go_wp2
    have hst := storedN (e := 0) HX2.out HB2.out (by omega) HZ2.out
    exact bodyPost_ret (results_single rfl (.cell (w.heap.size + 1) 50 #[.pointer (some ⟨g, 0, none⟩), .int .i64 0] (0, 0) _ rfl hst.1 Tryz.underlying50 rfl sizeN .nil)) rfl ⟨_, rfl, hst.2.1, hst.2.2⟩
  · have es : ¬ sgn z = 0 := by rw [sgn_eq0]; exact h0
    have ht := tz_lt (show z.natAbs ≠ 0 by omega)
    have HT := Lib.hid (fun (W : World) (hb' : Below W0.heap.size W0 W) => Nb.twos (zx.below hb') h0 (by omega))
    have HR := Lib.hid (fun (W : World) (p : Nat) (hp : Blk W p) (hb' : Below W0.heap.size W0 W) => Mk.rsh (n := tz z.natAbs) hp (zx.below hb') hb (by omega))
    have ee : odde z e = e + (tz z.natAbs : Nat) := by unfold odde; rw [if_neg h0]
    rw [ee]
    rw [show z / 2 ^ tz z.natAbs = oddz z from rfl] at HR
    generalize sgn z = sx at HS es
    have htl : tz z.natAbs ≤ 268435456 := by omega
    generalize tz z.natAbs = t at *
    have HE := Lib.hid (show IntKind.i64.wrap (e + IntKind.i64.wrap (t : Int)) = e + (t : Int) by rw [IntKind.wrap_i64, IntKind.wrap_i64]; omega)
    clear ee h0 zx hb ht
    generalize oddz z = y at *
    go_enter Tryz.func48, Tryz.ntmps48
    go_upto_region 1 with fail
    rw [← HW.out]
    clear HW
    go_wp2_with fail
    refine (HS.out W0 (Below.refl _ _)).mono ?_
    rintro en w1 ⟨rfl, hb1⟩
    obtain ⟨⟨p0, p1, _, _, p2⟩, ⟨t0, t1, t2, t3, t4⟩, hx1, hbw⟩ := stay.out w1 hb1
    have HB1 := Lib.hid hb1
    clear hx1 hbw hb1
    go_wp2_with fail
    refine (HT.out w1 HB1.out).mono ?_
    rintro en w2 ⟨rfl, n2, rfl⟩
    obtain ⟨w3, hw3⟩ : ∃ w3, w3 = w1.drewN n2 := ⟨_, rfl⟩
    have hb12 : Below W0.heap.size W0 w3 := by rw [hw3]; exact below_then HB1.out (below_drawn n2)
    rw [← hw3]
    clear p0 p1 p2 t0 t1 t2 t3 t4 HB1
    obtain ⟨⟨p0, p1, _, _, p2⟩, ⟨t0, t1, t2, t3, t4⟩, hx1, hbw⟩ := stay.out w3 hb12
    have HB2 := Lib.hid hb12
    have hs2 := hb12.size
    clear hx1 hbw hb12 hw3
    go_wp2_with fail
    go_region_held3 (fun w' => w'.cell? ⟨w.heap.size, 0, none⟩ = some (.pointer (some ⟨q, 0, none⟩)) ∧ w'.cell? ⟨w.heap.size, 1, none⟩ = some (.int .i64 e)) (go_keep)
      (first | (go_at_call 74; refine (HR.out _ _ (by first | exact (Z.new _).blk | exact (Z.new w3).blk.below (Below.refl _ _).drew) (by first | exact (HB2.out.alloc hs2 _) | exact HB2.out.drew.alloc hs2 _ | exact (HB2.out.alloc hs2 _).drew)).mono ?_; rintro en w4 ⟨rfl, hz2, hg2⟩; have hb2 := news_below (W0 := W0) (by first | exact (HB2.out.alloc hs2 _) | exact HB2.out.drew.alloc hs2 _ | exact (HB2.out.alloc hs2 _).drew) hs2 hg2; obtain ⟨⟨p0, p1, _, _, p2⟩, ⟨t0, t1, t2, t3, t4⟩, hx1, hbw⟩ := stay.out w4 hb2; have HX2 := Lib.hid hx1; have HB4 := Lib.hid hbw; have HZ2 := Lib.hid hz2; clear hz2 hg2 hb2 hx1 hbw))
    all_goals go_wp2
    all_goals
      first
        | (have hst := storedN (e := IntKind.i64.wrap (e + IntKind.i64.wrap (t : Int))) HX2.out HB4.out (by omega) HZ2.out
           exact bodyPost_ret (results_single rfl (.cell (w.heap.size + 1) 50 #[.pointer (some ⟨_, 0, none⟩), .int .i64 (IntKind.i64.wrap (e + IntKind.i64.wrap (t : Int)))] (0, 0) _ rfl hst.1 Tryz.underlying50 rfl sizeN .nil)) rfl ⟨_, by rw [HE.out], hst.2.1, hst.2.2⟩)
theorem sizeD : (Tryz.prog.info? 30).map (·.size) = some 3 := by kernel_rfl
def GivesD (w : World) (s : Int) (l : List Int) (x c : Int) (e : Ending) (w' : World) : Prop :=
  ∃ u, e = .returned (.tuple #[.agg #[.int .i64 s, u, .int .i64 x], .int .i64 c]) ∧ Kd.R (Kd.int .i64) 2 w' w.heap.size (fun _ => True) u l ∧ Below w.heap.size w w'
theorem storedD {w W : World} {g : Nat} {s x : Int} {u : Value} {l : List Int} (hg : W.heap[g]? = some (.cells #[.int .i64 0, .slice none 0 0, .int .i64 0] 30 (0, 0))) (hb : Below w.heap.size w W) (hw : w.heap.size ≤ g) (hR : Kd.R (Kd.int .i64) 2 W w.heap.size (fun _ => True) u l) :
    (((W.setCell ⟨g, 0, none⟩ (.int .i64 s)).setCell ⟨g, 1, none⟩ u).setCell ⟨g, 2, none⟩ (.int .i64 x)).heap[g]? = some (.cells #[.int .i64 s, u, .int .i64 x] 30 (0, 0)) ∧ Kd.R (Kd.int .i64) 2 (((W.setCell ⟨g, 0, none⟩ (.int .i64 s)).setCell ⟨g, 1, none⟩ u).setCell ⟨g, 2, none⟩ (.int .i64 x)) w.heap.size (fun _ => True) u l ∧ Below w.heap.size w (((W.setCell ⟨g, 0, none⟩ (.int .i64 s)).setCell ⟨g, 1, none⟩ u).setCell ⟨g, 2, none⟩ (.int .i64 x)) :=
  ⟨blk_set (blk_set (blk_set hg 0 _) 1 _) 2 _, Kd.R_set (Kd.R_set (Kd.R_set hR hg (by decide) 0 _) (blk_set hg 0 _) (by decide) 1 _) (blk_set (blk_set hg 0 _) 1 _) (by decide) 2 _, ((hb.setCell (p := ⟨g, 0, none⟩) hw _).setCell (p := ⟨g, 1, none⟩) hw _).setCell (p := ⟨g, 2, none⟩) hw _⟩
theorem cellsD {W : World} {g : Nat} {u v x : Value} {t : Nat} (hg : W.heap[g]? = some (.cells #[u, v, x] t (0, 0))) : W.cell? ⟨g, 0, none⟩ = some u ∧ W.cell? ⟨g, 1, none⟩ = some v ∧ W.cell? ⟨g, 2, none⟩ = some x ∧ W.frozen? ⟨g, 0, none⟩ = false ∧ W.frozen? ⟨g, 1, none⟩ = false ∧ W.frozen? ⟨g, 2, none⟩ = false ∧ g < W.heap.size :=
  ⟨kcq hg 0, kcq hg 1, kcq hg 2, kfq hg 0, kfq hg 1, kfq hg 2, (Array.getElem?_eq_some_iff.1 hg).1⟩
set_option maxHeartbeats 800000 in
theorem numberOf {w : World} {s e : Int} {A : Option Addr} {c : Nat} {l : List Int} (hC : (Kd.int .i64).C w A l.length l) (h : isW s l = true) :
    Calls Tryz.prog 21 #[.agg #[.int .i64 s, .slice A l.length c, .int .i64 e]] w (GivesN w (wv s l) e) := by
  obtain ⟨W0, hW0⟩ : ∃ W0, W0 = (w.alloc (.cells #[.int .i64 s, .slice A l.length c, .int .i64 e] 30)).alloc (.cells #[.pointer none, .int .i64 0] 50) := ⟨_, rfl⟩
  obtain ⟨hb0, hx0, hx1, hs0⟩ := boxes2 w (.cells #[.int .i64 s, .slice A l.length c, .int .i64 e] 30) (.cells #[.pointer none, .int .i64 0] 50) W0 (by rw [hW0]; exact Below.refl _ _)
  have HN := Lib.hid (fun (W : World) (hb : Below W0.heap.size W0 W) => cBig (c := c) (C_at (C_at hC hb0) hb) h)
  have HB0 := Lib.hid hb0
  have HX0 := Lib.hid hx0
  have HX1 := Lib.hid hx1
  have HW := Lib.hid hW0
  obtain ⟨c0, c1, c2, _, _, _, l0⟩ := cellsD hx0
  obtain ⟨d0, d1, f0, f1, l1⟩ := cellsN hx1
  clear hC h hb0 hx0 hx1 hW0
  generalize l.length = n at *
  go_enter Tryz.func21, Tryz.ntmps21
  go_wp2_with fail
  rw [← HW.out]
  clear HW
  go_region_held3 (fun w' => w'.cell? ⟨w.heap.size, 0, none⟩ = some (.int .i64 s) ∧ w'.cell? ⟨w.heap.size, 1, none⟩ = some (.slice A n c) ∧ w'.cell? ⟨w.heap.size, 2, none⟩ = some (.int .i64 e)) (go_keep)
    (first | (go_at_call 47; refine (HN.out _ (by first | exact Below.refl _ _ | exact (Below.refl _ _).drew)).mono ?_; rintro en w2 ⟨g, rfl, hz2, hg2, hb'⟩; have hb2 := below_then (show Below W0.heap.size W0 _ by first | exact Below.refl _ _ | exact (Below.refl _ _).drew) hb'; have hx0 := (hb2.block _ l0).trans HX0.out; have hx1 := (hb2.block _ l1).trans HX1.out; obtain ⟨a0, a1, a2, _, _, _, k0⟩ := cellsD hx0; obtain ⟨b0, b1, g0, g1, k1⟩ := cellsN hx1; have HX2 := Lib.hid hx1; have HB2 := Lib.hid (HB0.out.trans (hb2.mono (Nat.le_trans (by omega) hs0))); have HZ2 := Lib.hid hz2; clear hz2 hg2 hb2 hb' hx0 hx1))
  all_goals go_wp2
  all_goals
    have hst := storedN (e := e) HX2.out HB2.out (by omega) HZ2.out
    exact bodyPost_ret (results_single rfl (.cell (w.heap.size + 1) 50 #[.pointer (some ⟨_, 0, none⟩), .int .i64 e] (0, 0) _ rfl hst.1 Tryz.underlying50 rfl sizeN .nil)) rfl ⟨_, rfl, hst.2.1, hst.2.2⟩
end Go.Proofs.YtjggbalhpflbbaaGreat.Nd
end
section
set_option linter.unusedVariables false
set_option linter.unusedSimpArgs false
namespace Go.Proofs.YtjggbalhpflbbaaGreat.Sr
open Go.RowKit Go.Proofs.YtjggbalhpflbbaaGreatW.PrintWords Go.Proofs.YtjggbalhpflbbaaGreatW.PrintMore Go.Proofs.YtjggbalhpflbbaaGreat.PW Go.Proofs.YtjggbalhpflbbaaGreat.Pb Go.Proofs.YtjggbalhpflbbaaGreat.Pc Go.Proofs.YtjggbalhpflbbaaGreat.Pm Go.Proofs.YtjggbalhpflbbaaGreat.Pw Go.Proofs.YtjggbalhpflbbaaGreat.Ps Go.Proofs.YtjggbalhpflbbaaGreat.Px Go.Proofs.YtjggbalhpflbbaaGreat.Ma Go.Proofs.YtjggbalhpflbbaaGreat.Mh Go.Proofs.YtjggbalhpflbbaaGreat.Mu Go.Proofs.YtjggbalhpflbbaaGreat.Na Go.Proofs.YtjggbalhpflbbaaGreat.Nd Go.Proofs.YtjggbalhpflbbaaGreat.Re Go.Proofs.YtjggbalhpflbbaaGreat.Rf Go.Proofs.YtjggbalhpflbbaaGreat.Ve Go.Proofs.YtjggbalhpflbbaaGreat.We Go.Proofs.YtjggbalhpflbbaaGreat.Nr Dg Fp
theorem limb_mul {x m : Nat} (hx : IsN Ieee.double x false (V m 0)) (hm : m ≤ 16777216) : ∃ r, Ieee.double.mul x 4715268809856909312 = some r ∧ IsN Ieee.double r false (V (m * 16777216) 0) := by
  obtain ⟨r, h1, h2⟩ := mul_isN (f := Ieee.double) (m := m * 16777216) (e := 0) (by decide) hx c24 ⟨by rw [bi64]; omega, by rw [lp64]; decide, by rw [top64]; decide⟩ (by rw [V_mul (by decide) (by decide) (by decide)]; rfl)
  exact ⟨r, h1, by simpa using h2⟩
theorem limb_add {x y m n : Nat} (hx : IsN Ieee.double x false (V m 0)) (hy : IsN Ieee.double y false (V n 0)) (hm : m + n < 9007199254740992) : ∃ r, Ieee.double.add x y = some r ∧ IsN Ieee.double r false (V (m + n) 0) := by
  have hv : sv false (V m 0) + sv false (V n 0) = ((V (m + n) 0 : Nat) : Int) := by
    rw [V_U, V_U, V_U, Nat.add_mul]
    simp only [sv]
    push_cast
    rfl
  obtain ⟨r, h1, h2⟩ := add_isN (f := Ieee.double) (m := m + n) (e := 0) hK64 hx hy ⟨by rw [bi64]; omega, by rw [lp64]; decide, by rw [top64]; decide⟩ (by rw [hv]; rfl)
  refine ⟨r, h1, ?_⟩
  rw [hv] at h2
  rw [decide_eq_false (by omega)] at h2
  simpa using h2
theorem limb_step (t k : Nat) : t / 16777216 ^ (k + 1) * 16777216 + t / 16777216 ^ k % 16777216 = t / 16777216 ^ k := by
  rw [Nat.pow_succ, ← Nat.div_div_eq_div_mul]
  have := Nat.div_add_mod (t / 16777216 ^ k) 16777216
  omega
theorem limbs_end {t k : Nat} (h : (L t).length ≤ k) : t / 16777216 ^ k = 0 := by
  have h1 := (L_len_iff t k).1 h
  have h2 := bl_iff.1 h1
  rw [Nat.pow_mul] at h2
  exact Nat.div_eq_of_lt h2
theorem bl_rt {z e mode : Int} (h0 : z ≠ 0) : (bl z.natAbs : Int) + e ≤ (bl (rt z e mode).1 : Int) + rq (bl z.natAbs) e := by
  unfold rt
  generalize rq (bl z.natAbs) e = Q
  by_cases hA : Q ≤ e
  · rw [if_pos hA]
    show _ ≤ ((bl (z.natAbs * 2 ^ (e - Q).toNat) : Nat) : Int) + Q
    rw [bl_shift (by omega)]; omega
  · rw [if_neg hA]
    have key : ∀ t, z.natAbs / 2 ^ (Q - e).toNat ≤ t → (bl z.natAbs : Int) + e ≤ (bl t : Int) + Q := fun t ht => by
      have h1 : z.natAbs / 2 ^ (Q - e).toNat < 2 ^ bl t := Nat.lt_of_le_of_lt ht (bl_iff.1 (Nat.le_refl _))
      have h2 := (Nat.div_lt_iff_lt_mul (Nat.two_pow_pos _)).1 h1
      rw [← Nat.pow_add] at h2
      have := bl_iff.2 h2
      omega
    split
    · exact key _ (Nat.le_refl _)
    · exact key _ (Nat.le_add_right _ _)
theorem zero64 : IsN Ieee.double 0 false (V 0 0) := by
  have h0 := isN_word (f := Ieee.double) (m := 0) (e := -1074) false ⟨by rw [bi64]; decide, by rw [lp64]; decide, .inl (by rw [lp64])⟩ (by decide)
  rw [V_zero] at h0 ⊢
  exact h0
theorem stay2 {w W0 W2 : World} {A A1 : Option Addr} {n c m d1 g : Nat} {s e s1 : Int} {l : List Int} (hb0 : Below w.heap.size w W0) (hx0 : W0.heap[w.heap.size]? = some (.cells #[.int .i64 s, .slice A n c, .int .i64 e] 30 (0, 0))) (hb2 : Below W0.heap.size W0 W2)
    (hx2 : W2.heap[g]? = some (.cells #[.int .i64 s1, .slice A1 m d1] 28 (0, 0))) (hC : (Kd.int .i64).C W2 A1 l.length l) : ∀ W, Below W2.heap.size W2 W →
    (W.cell? ⟨w.heap.size, 0, none⟩ = some (.int .i64 s) ∧ W.cell? ⟨w.heap.size, 1, none⟩ = some (.slice A n c) ∧ W.cell? ⟨w.heap.size, 2, none⟩ = some (.int .i64 e)) ∧ (W.cell? ⟨g, 0, none⟩ = some (.int .i64 s1) ∧ W.cell? ⟨g, 1, none⟩ = some (.slice A1 m d1)) ∧ (Kd.int .i64).C W A1 l.length l ∧ Below W0.heap.size W0 W ∧ Below w.heap.size w W := fun W hb => by
  have h2 := below_then hb2 hb
  obtain ⟨c0, c1, c2, _⟩ := cellsD ((h2.block _ (klq hx0)).trans hx0)
  obtain ⟨d0, d1, _⟩ := cellsN ((hb.block _ (klq hx2)).trans hx2)
  exact ⟨⟨c0, c1, c2⟩, ⟨d0, d1⟩, C_at hC hb, h2, below_then hb0 h2⟩
theorem sround0 {w : World} {A : Option Addr} {n c : Nat} {e mode : Int} :
    Calls Tryz.prog 13 #[.agg #[.int .i64 0, .slice A n c, .int .i64 e], .int .i64 mode] w fun en w' => en = .returned (.tuple #[.float .f32 0, .int .i64 0]) ∧ Below w.heap.size w w' := by
  obtain ⟨W0, hW0⟩ : ∃ W0, W0 = w.alloc (.cells #[.int .i64 0, .slice A n c, .int .i64 e] 30) := ⟨_, rfl⟩
  obtain ⟨hb0, hx0, hs0⟩ := boxes1 w (.cells #[.int .i64 0, .slice A n c, .int .i64 e] 30) W0 (by rw [hW0]; exact Below.refl _ _)
  have HB0 := Lib.hid hb0
  have HW := Lib.hid hW0
  obtain ⟨c0, c1, c2, _, _, _, l0⟩ := cellsD hx0
  clear hb0 hx0 hW0
  go_enter Tryz.func13, Tryz.ntmps13
  go_upto_region 1 with fail
  rw [← HW.out]
  clear HW
  go_wp2
  go_ret2
  exact ⟨rfl, HB0.out⟩
set_option maxRecDepth 20000 in
set_option maxHeartbeats 1600000 in
theorem sround {w : World} {A : Option Addr} {c : Nat} {z e mode : Int} (h0 : z ≠ 0) (ho : z.natAbs % 2 = 1) (hb : bl z.natAbs ≤ 100000) (h1 : -100000 ≤ e) (h2 : e ≤ 100000) (h3 : 0 ≤ mode) (h4 : mode ≤ 4)
    (hC : (Kd.int .i64).C w A (L z.natAbs).length (L z.natAbs)) (hc : (L z.natAbs).length ≤ c) :
    Calls Tryz.prog 13 #[.agg #[.int .i64 (sgn z), .slice A (L z.natAbs).length c, .int .i64 e], .int .i64 mode] w fun en w' => en = .returned (.tuple #[.float .f32 (rnd z e mode).1, .int .i64 (rnd z e mode).2]) ∧ Below w.heap.size w w' := by
  obtain ⟨W0, hW0⟩ : ∃ W0, W0 = w.alloc (.cells #[.int .i64 (sgn z), .slice A (L z.natAbs).length c, .int .i64 e] 30) := ⟨_, rfl⟩
  obtain ⟨hb0, hx0, hs0⟩ := boxes1 w (.cells #[.int .i64 (sgn z), .slice A (L z.natAbs).length c, .int .i64 e] 30) W0 (by rw [hW0]; exact Below.refl _ _)
  obtain ⟨K2, hK2⟩ := (slength (sgn z) z.natAbs (by omega)).rounds
  have htl := rt_le z e mode
  have hQ0 := (rq_bd (bl z.natAbs) e).1
  have hQu : rq (bl z.natAbs) e ≤ 300000 := by unfold rq; split <;> omega
  have hbt : bl (rt z e mode).1 ≤ 25 := bl_le (by omega)
  obtain ⟨K3, hK3⟩ := (slength (sgn ((rt z e mode).1 : Int)) (rt z e mode).1 (by omega)).rounds
  have hb' := hb
  have HM := Lib.hid (fun (W : World) (hb : Below W0.heap.size W0 W) => Hc.handMult h0 ho hb' h1 h2 h3 h4 (C_at (C_at hC hb0) hb) hc)
  have HLD := Lib.hid (fun (W : World) (hb : Below W0.heap.size W0 W) => spec_l02Length.calls K2 (sgn z) A c (L z.natAbs) _ W (C_at (C_at hC hb0) hb) hc hK2)
  have HLM := Lib.hid (fun (W : World) (B : Option Addr) (d : Nat) (hB : (Kd.int .i64).C W B (L (rt z e mode).1).length (L (rt z e mode).1)) (hd : (L (rt z e mode).1).length ≤ d) => spec_l02Length.calls K3 (sgn ((rt z e mode).1 : Int)) B d (L (rt z e mode).1) _ W hB hd hK3)
  have hfl : (rt z e mode).2 = if rq (bl z.natAbs) e ≤ e then 0 else if (bl z.natAbs : Int) + e ≤ -126 then 3 else 1 := by
    unfold rt
    by_cases hA : rq (bl z.natAbs) e ≤ e
    · rw [if_pos hA, if_pos hA]
    · rw [if_neg hA, if_neg hA, if_neg (odd_mod ho (by omega))]
  have HFL := Lib.hid hfl
  have hsg : (z < 0 ∧ sgn z = -1) ∨ (¬ z < 0 ∧ sgn z = 1) := by have := sgn_cases z; omega
  have HR1 := Lib.hid (show 128 < (bl z.natAbs : Int) + e → rnd z e mode = (ovr (sgn z) mode, 5) from fun h => by unfold rnd; rw [if_neg h0, if_pos h])
  have HR2 := Lib.hid (show ¬ 128 < (bl z.natAbs : Int) + e → 128 < (bl (rt z e mode).1 : Int) + rq (bl z.natAbs) e → rnd z e mode = (ovr (sgn z) mode, 5) from fun h h' => by unfold rnd; rw [if_neg h0, if_neg h, if_pos h'])
  have HR3 := Lib.hid (show ¬ 128 < (bl z.natAbs : Int) + e → ¬ 128 < (bl (rt z e mode).1 : Int) + rq (bl z.natAbs) e → rnd z e mode = (Ieee.single.nearest (decide (z < 0)) (rt z e mode).1 (rq (bl z.natAbs) e), (rt z e mode).2) from fun h h' => by unfold rnd; rw [if_neg h0, if_neg h, if_neg h'])
  have HB0 := Lib.hid hb0
  have HX0 := Lib.hid hx0
  have HW := Lib.hid hW0
  obtain ⟨c0, c1, c2, _, _, _, l0⟩ := cellsD hx0
  clear hb0 hx0 hW0 hC hc hK2 hK3 hfl hb'
  generalize (L z.natAbs).length = n at *
  go_enter Tryz.func13, Tryz.ntmps13
  go_upto_region 1 with fail
  rw [← HW.out]
  clear HW
  go_wp2_with fail
  refine (HM.out W0 (Below.refl _ _)).mono ?_
  rintro en w1 ⟨u, rfl, hR, hb1⟩
  obtain ⟨A1, d1, rfl⟩ := Kd.R_slice hR
  have HRR := Lib.hid (Kd.R_reads' hR)
  have HB1 := Lib.hid hb1
  clear hb1 hR
  have hle := bl_rt (z := z) (e := e) (mode := mode) h0
  have HOV := Lib.hid (show 128 < (bl (rt z e mode).1 : Int) + rq (bl z.natAbs) e → rnd z e mode = (ovr (sgn z) mode, 5) from fun h => if h' : 128 < (bl z.natAbs : Int) + e then HR1.out h' else HR2.out (by omega) h)
  have HNV := Lib.hid (show (bl (rt z e mode).1 : Int) + rq (bl z.natAbs) e ≤ 128 → rnd z e mode = (Ieee.single.nearest (decide (z < 0)) (rt z e mode).1 (rq (bl z.natAbs) e), (rt z e mode).2) from fun h => HR3.out (by omega) (by omega))
  have hQ1 : (bl (rt z e mode).1 : Int) + rq (bl z.natAbs) e ≤ 128 → rq (bl z.natAbs) e ≤ 104 := fun h => rq_le (by omega)
  have HQ1 := Lib.hid hQ1
  clear HR1 HR2 HR3 hQ1 hle
  generalize (rt z e mode).1 = t at *
  generalize (rt z e mode).2 = F at *
  generalize rq (bl z.natAbs) e = Q at *
  generalize hex : decide (Q ≤ e) = ex at *
  have HEX := Lib.hid hex
  clear hex
  have hlen : (L t).length ≤ 2 := by rw [L_len_iff]; omega
  have hx2 := newAt w1 (.cells #[.int .i64 (sgn (t : Int)), .slice A1 (L t).length d1] 28)
  have hb2 := below_then HB1.out (Ma.waq w1 (.cells #[.int .i64 (sgn (t : Int)), .slice A1 (L t).length d1] 28))
  have hC2 := C_at HRR.out.2.2 (Ma.waq w1 (.cells #[.int .i64 (sgn (t : Int)), .slice A1 (L t).length d1] 28))
  have hbt3 := limbs_end (t := t) (Nat.le_refl _)
  have HLE := Lib.hid hbt3
  clear hbt3
  go_upto_region 4 with fail
  generalize w1.alloc (.cells #[.int .i64 (sgn (t : Int)), .slice A1 (L t).length d1] 28) = W2 at hx2 hb2 hC2 ⊢
  have stay := Lib.hid (stay2 HB0.out HX0.out hb2 hx2 hC2)
  have HLM2 := Lib.hid (HLM.out W2 A1 d1 hC2 HRR.out.2.1)
  clear hx2 hb2 hC2 HLM c0 c1 c2
  generalize w1.heap.size = g at *
  obtain ⟨⟨c0, c1, c2⟩, ⟨e0, e1⟩, -⟩ := stay.out W2 (Below.refl _ _)
  go_wp2_with fail
  refine HLM2.out.mono ?_
  rintro en w3 ⟨rfl, hb⟩
  have HB3 := Lib.hid hb
  clear hb c0 c1 c2 e0 e1
  obtain ⟨⟨c0, c1, c2⟩, ⟨e0, e1⟩, hC3, -, hbw3⟩ := stay.out w3 HB3.out
  have HBW3 := Lib.hid hbw3
  have HC3 := Lib.hid hC3
  clear hC3 hbw3
  by_cases hov : 128 < (bl t : Int) + Q
  · have HR := Lib.hid (HOV.out hov)
    have HO := Lib.hid (fun (W : World) => sOver (w := W) (mode := mode) (s := sgn z) (by omega) ⟨h3, h4⟩)
    clear HOV HNV
    go_wp2_with fail
    refine (HO.out _).mono ?_
    rintro en w4 ⟨rfl, rfl⟩
    go_wp2
    go_ret2
    exact ⟨by rw [HR.out]; rfl, HBW3.out⟩
  · have HR := Lib.hid (HNV.out (by omega))
    have hq1 := HQ1.out (by omega)
    have HCV := Lib.hid (fun (r : Nat) (h : IsN Ieee.double r false (V t Q)) (W : World) => convT h htl hQ0 (by omega) hq1 W)
    have HTW := Lib.hid (fun (b : Nat) (h : IsN Ieee.double b false (V t 0)) (W : World) => l01Twos b Q false t 0 h (by omega) (by decide) (by decide) (by omega) (by omega) W)
    have HTN := Lib.hid (fun (W : World) => l01Turned (Ieee.single.nearest false t Q) (near_lt false htl hQ0 (by omega) hq1).1 (near_lt false htl hQ0 (by omega) hq1).2 W)
    have HOP := Lib.hid (opp_near htl hQ0 (show (bl t : Int) + Q ≤ 128 by omega) hq1)
    clear HOV HNV
    have hcell : ∀ k, k < (L t).length → ∃ ad, A1 = some ad ∧ w3.cell? (ad.add k) = some (.int .i64 ((t / 16777216 ^ k % 16777216 : Nat) : Int)) := fun k hk => by
      obtain ⟨ad, hA, hc⟩ := Kd.at_int HC3.out (k : Int) (by omega) (by omega)
      rw [Int.toNat_natCast, rdN, L_getD] at hc
      exact ⟨ad, hA, hc⟩
    have HCL := Lib.hid hcell
    clear hcell
    generalize hm : (L t).length = m at *
    clear hm
    go_wp2_with fail
    go_loop [9, 10] (fun u i => ∃ k b : Nat, k ≤ m ∧ i = .int .i64 ((k : Int) - 1) ∧ u = .float .f64 b ∧ Hid (IsN Ieee.double b false (V (t / 16777216 ^ k) 0))) (fun _ i => (intOf i + 1).toNat)
    case atStart => exact ⟨m, 0, Nat.le_refl _, rfl, rfl, Lib.hid (by rw [HLE.out]; exact zero64)⟩
    case round =>
      obtain ⟨k, b, hk, rfl, rfl, HN⟩ := hrel
      cases k with
      | zero =>
        have e' : ((0 : Nat) : Int) - 1 = -1 := rfl
        rw [e']
        have hN := HN.out
        rw [Nat.pow_zero, Nat.div_one] at hN
        have HT := Lib.hid (HTW.out b hN)
        clear hN HN e'
        go_wp2_with fail
        refine (HT.out _).mono ?_
        rintro en w4 ⟨⟨r, rfl, hr⟩, rfl⟩
        rw [Int.zero_add] at hr
        have hcv := HCV.out r hr
        clear hr
        go_upto_if 56 with fail
        go_cut [12] (fun v12 wx => v12 = .int .i64 F ∧ Hid (Below W2.heap.size W2 wx))
        case first =>
          cases ex with
          | true =>
            go_wp2_with fail
            go_meet
            exact ⟨by rw [HFL.out, if_pos (of_decide_eq_true HEX.out)], HB3⟩
          | false =>
            have hA := of_decide_eq_false HEX.out
            have hF : F = if (bl z.natAbs : Int) + e ≤ -126 then 3 else 1 := by rw [HFL.out, if_neg hA]
            have HF := Lib.hid hF
            have HB03 := Lib.hid ((stay.out w3 HB3.out).2.2.2.1)
            clear hF hA
            by_cases ht : (bl z.natAbs : Int) + e ≤ -126
            · have hF := HF.out
              rw [if_pos ht] at hF
              have HF3 := Lib.hid hF
              clear hF
              go_upto_region 14 with fail
              go_region_held3 (fun w' => w'.cell? ⟨w.heap.size, 0, none⟩ = some (.int .i64 (sgn z)) ∧ w'.cell? ⟨w.heap.size, 1, none⟩ = some (.slice A n c) ∧ w'.cell? ⟨w.heap.size, 2, none⟩ = some (.int .i64 e)) (go_keep)
                (first | (go_at_call 30; refine (HLD.out _ (by first | exact HB03.out | exact HB03.out.drew)).mono ?_; rintro en w5 ⟨rfl, hb'⟩; have hb5 := below_then (show Below W2.heap.size W2 _ by first | exact HB3.out | exact HB3.out.drew) hb'; obtain ⟨⟨a0, a1, a2⟩, -⟩ := stay.out _ hb5; have HB5 := Lib.hid hb5; clear hb5 hb'))
              all_goals go_wp2_with fail
              all_goals go_meet
              all_goals first | (rw [HF3.out]; exact ⟨rfl, HB5⟩) | (exfalso; have hw : IntKind.i64.wrap ((bl z.natAbs : Int) + e) = (bl z.natAbs : Int) + e := Ss.i64_id (by omega) (by omega); simp only [hw] at *; omega)
            · have hF := HF.out
              rw [if_neg ht] at hF
              have HF3 := Lib.hid hF
              clear hF
              go_upto_region 14 with fail
              go_region_held3 (fun w' => w'.cell? ⟨w.heap.size, 0, none⟩ = some (.int .i64 (sgn z)) ∧ w'.cell? ⟨w.heap.size, 1, none⟩ = some (.slice A n c) ∧ w'.cell? ⟨w.heap.size, 2, none⟩ = some (.int .i64 e)) (go_keep)
                (first | (go_at_call 30; refine (HLD.out _ (by first | exact HB03.out | exact HB03.out.drew)).mono ?_; rintro en w5 ⟨rfl, hb'⟩; have hb5 := below_then (show Below W2.heap.size W2 _ by first | exact HB3.out | exact HB3.out.drew) hb'; obtain ⟨⟨a0, a1, a2⟩, -⟩ := stay.out _ hb5; have HB5 := Lib.hid hb5; clear hb5 hb'))
              all_goals go_wp2_with fail
              all_goals go_meet
              all_goals first | (rw [HF3.out]; exact ⟨rfl, HB5⟩) | (exfalso; have hw : IntKind.i64.wrap ((bl z.natAbs : Int) + e) = (bl z.natAbs : Int) + e := Ss.i64_id (by omega) (by omega); simp only [hw] at *; omega)
        case rest =>
          obtain ⟨rfl, HB4⟩ := hcut
          clear c0 c1 c2 e0 e1
          obtain ⟨⟨c0, c1, c2⟩, ⟨e0, e1⟩, -, -, hbw4⟩ := stay.out wc HB4.out
          have HBW4 := Lib.hid hbw4
          clear hbw4 e0 e1
          rcases hsg with ⟨hz, hs⟩ | ⟨hz, hs⟩
          · rw [hs] at c0
            have HR' := Lib.hid (show rnd z e mode = (Ieee.single.nearest true t Q, F) by rw [HR.out, decide_eq_true hz])
            clear hz hs
            go_wp2_with fail
            refine (HTN.out _).mono ?_
            rintro en w6 ⟨rfl, rfl⟩
            go_wp2
            go_ret2
            exact ⟨by rw [HR'.out, ← HOP.out]; rfl, HBW4.out⟩
          · rw [hs] at c0
            have HR' := Lib.hid (show rnd z e mode = (Ieee.single.nearest false t Q, F) by rw [HR.out, decide_eq_false (by omega)])
            clear hz hs
            go_wp2
            go_ret2
            exact ⟨by rw [HR'.out]; rfl, HBW4.out⟩
      | succ k =>
        have e' : ((k + 1 : Nat) : Int) - 1 = (k : Int) := by omega
        rw [e']
        clear e'
        obtain ⟨ad, hA, hc⟩ := HCL.out k (by omega)
        subst hA
        obtain ⟨r1, hr1, hn1⟩ := limb_mul HN.out (Nat.le_trans (Nat.div_le_self _ _) htl)
        have hi := ofInt64 ((t / 16777216 ^ k % 16777216 : Nat) : Int) (by omega) (by omega)
        rw [Int.natAbs_natCast, decide_eq_false (by omega)] at hi
        obtain ⟨r2, hr2, hn2⟩ := limb_add hn1 hi (by rw [limb_step]; have := Nat.div_le_self t (16777216 ^ k); omega)
        rw [limb_step] at hn2
        have HN2 := Lib.hid hn2
        have hrun1 := run_float_arith (P := Tryz.prog) w3 .mul 64 .f64 b 4715268809856909312 r1 hr1
        have hrun2 := run_float_arith (P := Tryz.prog) w3 .add 64 .f64 r1 _ r2 hr2
        clear hr1 hn1 hi hr2 hn2
        generalize t / 16777216 ^ k % 16777216 = d at *
        go_wp2
        go_round
        case rel => exact ⟨k, r2, by omega, rfl, rfl, HN2⟩
        case measure => (simp [intOf]) <;> omega
end Go.Proofs.YtjggbalhpflbbaaGreat.Sr
end
section
set_option linter.unusedVariables false
set_option linter.unusedSimpArgs false
namespace Go.Proofs.YtjggbalhpflbbaaGreat.Nf
open Go.RowKit Go.Proofs.YtjggbalhpflbbaaGreatW.PrintWords Go.Proofs.YtjggbalhpflbbaaGreat.PW Go.Proofs.YtjggbalhpflbbaaGreat.Pc Go.Proofs.YtjggbalhpflbbaaGreat.Pb Go.Proofs.YtjggbalhpflbbaaGreat.Pw Go.Proofs.YtjggbalhpflbbaaGreat.Ma Go.Proofs.YtjggbalhpflbbaaGreat.Mb Go.Proofs.YtjggbalhpflbbaaGreat.Mc Go.Proofs.YtjggbalhpflbbaaGreat.Md Go.Proofs.YtjggbalhpflbbaaGreat.Me Go.Proofs.YtjggbalhpflbbaaGreat.Mn Go.Proofs.YtjggbalhpflbbaaGreat.Mo Go.Proofs.YtjggbalhpflbbaaGreat.Mu Go.Proofs.YtjggbalhpflbbaaGreat.Na Go.Proofs.YtjggbalhpflbbaaGreat.Nd Go.Proofs.YtjggbalhpflbbaaGreat.Qa Dg
open Pm (sgn)
theorem oddz_abs (z : Int) : (oddz z).natAbs = z.natAbs / 2 ^ tz z.natAbs ∧ sgn (oddz z) = sgn z := by
  unfold oddz
  by_cases h0 : z = 0
  · subst h0; simp
  · have hn : z.natAbs ≠ 0 := by omega
    have ho := tz_odd hn
    have hd := (tz_dvd (k := tz z.natAbs) hn).2 (Nat.le_refl _)
    have hf := St.fdiv_neg z.natAbs (tz z.natAbs) hn
    rw [if_pos hd] at hf
    have e : ((2 : Int) ^ tz z.natAbs) = ((2 ^ tz z.natAbs : Nat) : Int) := by simp
    by_cases hz : z < 0
    · have e1 : -((z.natAbs : Nat) : Int) = z := by omega
      rw [e1] at hf
      rw [hf]
      generalize z.natAbs / 2 ^ tz z.natAbs = m at *
      refine ⟨by omega, ?_⟩
      unfold Pm.sgn
      rw [if_pos (by omega), if_pos hz]
    · have e1 : z = ((z.natAbs : Nat) : Int) := by omega
      have e2 : z / 2 ^ tz z.natAbs = ((z.natAbs / 2 ^ tz z.natAbs : Nat) : Int) := by
        rw [e]
        conv => lhs; arg 1; rw [e1]
        rfl
      rw [e2]
      generalize z.natAbs / 2 ^ tz z.natAbs = m at *
      refine ⟨by omega, ?_⟩
      unfold Pm.sgn
      rw [if_neg (by omega), if_neg (by omega), if_neg hz, if_neg h0]
theorem fitD_eq (z e : Int) : fitD z e = if bl (oddz z).natAbs ≤ 2400 ∧ -3000 ≤ odde z e ∧ odde z e ≤ 3000 then (sgn (oddz z), L (oddz z).natAbs, odde z e, 0) else (0, [], 0, 3) := by
  obtain ⟨h1, h2⟩ := oddz_abs z
  rw [h1, h2]
  unfold fitD odde
  by_cases h0 : z = 0
  · subst h0
    rw [if_pos rfl, if_pos rfl, if_pos (by simp [bl])]
    simp [Pm.sgn, L_zero]
  · rw [if_neg h0, if_neg h0]
theorem restoredN {w W : World} {g q p : Nat} {z e : Int} {f : Int} (hg : W.heap[g]? = some (.cells #[.pointer (some ⟨p, 0, none⟩), .int .i64 f] 50 (0, 0))) (hb : Below w.heap.size w W) (hw : w.heap.size ≤ g) (hz : Z W q z) :
    ((W.setCell ⟨g, 0, none⟩ (.pointer (some ⟨q, 0, none⟩))).setCell ⟨g, 1, none⟩ (.int .i64 e)).heap[g]? = some (.cells #[.pointer (some ⟨q, 0, none⟩), .int .i64 e] 50 (0, 0)) ∧ Z ((W.setCell ⟨g, 0, none⟩ (.pointer (some ⟨q, 0, none⟩))).setCell ⟨g, 1, none⟩ (.int .i64 e)) q z ∧ Below w.heap.size w ((W.setCell ⟨g, 0, none⟩ (.pointer (some ⟨q, 0, none⟩))).setCell ⟨g, 1, none⟩ (.int .i64 e)) :=
  ⟨blk_set (blk_set hg 0 _) 1 _, zset (zset hz hg (by decide) (two_cells (fun x => by simp) (fun x => by simp)) 0 _) (blk_set hg 0 (.pointer (some ⟨q, 0, none⟩))) (by decide) (two_cells (fun x => by simp) (fun x => by simp)) 1 _, (hb.setCell (p := ⟨g, 0, none⟩) hw _).setCell (p := ⟨g, 1, none⟩) hw _⟩
theorem storedDA {w W : World} {g : Nat} {s x : Int} {u : Value} {l : List Int} (o : Obj) (hg : W.heap[g]? = some (.cells #[.int .i64 0, .slice none 0 0, .int .i64 0] 30 (0, 0))) (hb : Below w.heap.size w W) (hw : w.heap.size ≤ g) (hR : Kd.R (Kd.int .i64) 2 W w.heap.size (fun _ => True) u l) :
    ((((W.setCell ⟨g, 0, none⟩ (.int .i64 s)).setCell ⟨g, 1, none⟩ u).setCell ⟨g, 2, none⟩ (.int .i64 x)).alloc o).heap[g]? = some (.cells #[.int .i64 s, u, .int .i64 x] 30 (0, 0)) ∧ Kd.R (Kd.int .i64) 2 ((((W.setCell ⟨g, 0, none⟩ (.int .i64 s)).setCell ⟨g, 1, none⟩ u).setCell ⟨g, 2, none⟩ (.int .i64 x)).alloc o) w.heap.size (fun _ => True) u l ∧ Below w.heap.size w ((((W.setCell ⟨g, 0, none⟩ (.int .i64 s)).setCell ⟨g, 1, none⟩ u).setCell ⟨g, 2, none⟩ (.int .i64 x)).alloc o) := by
  have hst := storedD (s := s) (x := x) hg hb hw hR
  exact ⟨((Ma.waq _ o).block _ (Array.getElem?_eq_some_iff.1 hst.1).1).trans hst.1, Kd.R_below hst.2.1 (Ma.waq _ o), below_then hst.2.2 (Ma.waq _ o)⟩
set_option maxRecDepth 20000 in
set_option maxHeartbeats 1600000 in
theorem ndyadic {w : World} {q : Nat} {z e : Int} (hz : Z w q z) (hb : bl z.natAbs ≤ 268435456) (h1 : -1000000 ≤ e) (h2 : e ≤ 1000000) :
    Calls Tryz.prog 22 #[.agg #[.pointer (some ⟨q, 0, none⟩), .int .i64 e]] w (GivesD w (fitD z e).1 (fitD z e).2.1 (fitD z e).2.2.1 (fitD z e).2.2.2) := by
  obtain ⟨W0, hW0⟩ : ∃ W0, W0 = (w.alloc (.cells #[.pointer (some ⟨q, 0, none⟩), .int .i64 e] 50)).alloc (.cells #[.int .i64 0, .slice none 0 0, .int .i64 0] 30) := ⟨_, rfl⟩
  obtain ⟨hb0, hx0, hx1, hs0⟩ := boxes2 w (.cells #[.pointer (some ⟨q, 0, none⟩), .int .i64 e] 50) (.cells #[.int .i64 0, .slice none 0 0, .int .i64 0] 30) W0 (by rw [hW0]; exact Below.refl _ _)
  obtain ⟨c0, c1, cf0, cf1, l0⟩ := cellsN hx0
  obtain ⟨d0, d1, d2, f0, f1, f2, l1⟩ := cellsD hx1
  have HO := Lib.hid (nodd (hz.below hb0) hb h1 h2)
  have HX0 := Lib.hid hx0
  have HX1 := Lib.hid hx1
  have HB0 := Lib.hid hb0
  have HW := Lib.hid hW0
  have hbo : bl (oddz z).natAbs ≤ 268435456 := by
    rw [(oddz_abs z).1]
    have := bl_mono (Nat.div_le_self z.natAbs (2 ^ tz z.natAbs))
    omega
  rw [fitD_eq]
  have n0 : w.heap.size ≠ w.heap.size + 1 := by omega
  have n1 := Ne.symm n0
  clear hz hb hb0 hx0 hx1 hW0 h1 h2
  generalize oddz z = y at *
  generalize odde z e = x at *
  have step := Lib.hid (fun (w2 : World) (g : Nat) (hz2 : Z w2 g y) (hb2 : Below W0.heap.size W0 w2) => (⟨(restoredN (e := x) ((hb2.block _ l0).trans HX0.out) (HB0.out.trans (hb2.mono (Nat.le_trans (by omega) hs0))) (Nat.le_refl _) hz2), (Below.heap_setCell _ _ _ _ n1).trans ((Below.heap_setCell _ _ _ _ n1).trans ((hb2.block _ l1).trans HX1.out))⟩ : _ ∧ ((w2.setCell ⟨w.heap.size, 0, none⟩ (.pointer (some ⟨g, 0, none⟩))).setCell ⟨w.heap.size, 1, none⟩ (.int .i64 x)).heap[w.heap.size + 1]? = _))
  have cases : (bl y.natAbs ≤ 2400 ∧ -3000 ≤ x ∧ x ≤ 3000) ∨ (bl y.natAbs ≤ 2400 ∧ x < -3000) ∨ (bl y.natAbs ≤ 2400 ∧ 3000 < x) ∨ ¬ bl y.natAbs ≤ 2400 := by omega
  rcases cases with ⟨hL, x0, x1⟩ | ⟨hL, x0⟩ | ⟨hL, x0⟩ | hL
  · have HF := Lib.hid (fun (W : World) (g : Nat) (hz : Z W g y) => Mo.fromBig_yes hz hL)
    rw [if_pos ⟨hL, x0, x1⟩]
    clear hL hbo
    generalize sgn y = s at *
    generalize L y.natAbs = l at *
    go_enter Tryz.func22, Tryz.ntmps22
    go_upto_region 1 with fail
    rw [← HW.out]
    clear HW
    go_wp2_with fail
    refine HO.out.mono ?_
    rintro en w2 ⟨g, rfl, hz2, hb2⟩
    have hx0 := (hb2.block _ l0).trans HX0.out
    obtain ⟨p0, p1, p2, p3, k0⟩ := cellsN hx0
    obtain ⟨⟨h30, h31, h32⟩, h33⟩ := step.out w2 g hz2 hb2
    have HY0 := Lib.hid h30
    have HZ3 := Lib.hid h31
    have HB3 := Lib.hid h32
    have HY1 := Lib.hid h33
    clear hx0 hb2 hz2 h30 h31 h32 h33 step
    go_upto_region 2 with fail
    generalize hw3 : (w2.setCell ⟨w.heap.size, 0, none⟩ (.pointer (some ⟨g, 0, none⟩))).setCell ⟨w.heap.size, 1, none⟩ (.int .i64 x) = w3 at *
    clear hw3 p0 p1 p2 p3 k0
    obtain ⟨p0, p1, p2, p3, k0⟩ := cellsN HY0.out
    obtain ⟨r0, r1, r2, r3, r4, r5, k1⟩ := cellsD HY1.out
    go_wp2_with fail
    refine (HF.out w3 g HZ3.out).mono ?_
    rintro en w4 ⟨u, rfl, hR, hb4⟩
    obtain ⟨A, c, rfl⟩ := Kd.R_slice hR
    have hx0 := (hb4.block _ k0).trans HY0.out
    have hx1 := (hb4.block _ k1).trans HY1.out
    have hs4 := hb4.size
    clear p0 p1 p2 p3 r0 r1 r2 r3 r4 r5
    obtain ⟨p0, p1, p2, p3, m0⟩ := cellsN hx0
    obtain ⟨r0, r1, r2, r3, r4, r5, m1⟩ := cellsD hx1
    have HV1 := Lib.hid hx1
    have HR := Lib.hid (Kd.R_lower (base' := w.heap.size) hR (Nat.le_of_lt k0))
    have HB4 := Lib.hid (HB3.out.trans (hb4.mono (Nat.le_of_lt k0)))
    clear hx0 hx1 hR hb4 HZ3 HB3 HY0 HY1
    go_wp2
    have hst := storedDA (s := s) (x := x) (.cells #[.int .i64 s, .slice A l.length c] 28) HV1.out HB4.out (by omega) HR.out
    exact bodyPost_ret (results_ct rfl _ _ (w.heap.size + 1) 30 #[.int .i64 s, .slice A l.length c, .int .i64 x] (0, 0) _ rfl hst.1 Tryz.underlying30 rfl sizeD) rfl ⟨_, rfl, hst.2.1, hst.2.2⟩
  · have HF := Lib.hid (fun (W : World) (g : Nat) (hz : Z W g y) => Mo.fromBig_yes hz hL)
    rw [if_neg (show ¬ (bl y.natAbs ≤ 2400 ∧ -3000 ≤ x ∧ x ≤ 3000) from fun h => by omega)]
    clear hL hbo
    generalize sgn y = s at *
    generalize L y.natAbs = l at *
    go_enter Tryz.func22, Tryz.ntmps22
    go_upto_region 1 with fail
    rw [← HW.out]
    clear HW
    go_wp2_with fail
    refine HO.out.mono ?_
    rintro en w2 ⟨g, rfl, hz2, hb2⟩
    have hx0 := (hb2.block _ l0).trans HX0.out
    obtain ⟨p0, p1, p2, p3, k0⟩ := cellsN hx0
    obtain ⟨⟨h30, h31, h32⟩, h33⟩ := step.out w2 g hz2 hb2
    have HY0 := Lib.hid h30
    have HZ3 := Lib.hid h31
    have HB3 := Lib.hid h32
    have HY1 := Lib.hid h33
    clear hx0 hb2 hz2 h30 h31 h32 h33 step
    go_upto_region 2 with fail
    generalize hw3 : (w2.setCell ⟨w.heap.size, 0, none⟩ (.pointer (some ⟨g, 0, none⟩))).setCell ⟨w.heap.size, 1, none⟩ (.int .i64 x) = w3 at *
    clear hw3 p0 p1 p2 p3 k0
    obtain ⟨p0, p1, p2, p3, k0⟩ := cellsN HY0.out
    obtain ⟨r0, r1, r2, r3, r4, r5, k1⟩ := cellsD HY1.out
    go_wp2_with fail
    refine (HF.out w3 g HZ3.out).mono ?_
    rintro en w4 ⟨u, rfl, hR, hb4⟩
    obtain ⟨A, c, rfl⟩ := Kd.R_slice hR
    have hx0 := (hb4.block _ k0).trans HY0.out
    have hx1 := (hb4.block _ k1).trans HY1.out
    have hs4 := hb4.size
    clear p0 p1 p2 p3 r0 r1 r2 r3 r4 r5
    obtain ⟨p0, p1, p2, p3, m0⟩ := cellsN hx0
    obtain ⟨r0, r1, r2, r3, r4, r5, m1⟩ := cellsD hx1
    have HV1 := Lib.hid hx1
    have HR := Lib.hid (Kd.R_nil (Kd.int .i64) 2 w4 w.heap.size (fun _ => True))
    have HB4 := Lib.hid (HB3.out.trans (hb4.mono (Nat.le_of_lt k0)))
    clear hx0 hx1 hR hb4 HZ3 HB3 HY0 HY1
    go_wp2
    have hst := storedDA (s := 0) (x := 0) (.cells #[.int .i64 s, .slice A l.length c] 28) HV1.out HB4.out (by omega) HR.out
    exact bodyPost_ret (results_ct rfl _ _ (w.heap.size + 1) 30 #[.int .i64 0, .slice none 0 0, .int .i64 0] (0, 0) _ rfl hst.1 Tryz.underlying30 rfl sizeD) rfl ⟨_, rfl, hst.2.1, hst.2.2⟩
  · have HF := Lib.hid (fun (W : World) (g : Nat) (hz : Z W g y) => Mo.fromBig_yes hz hL)
    rw [if_neg (show ¬ (bl y.natAbs ≤ 2400 ∧ -3000 ≤ x ∧ x ≤ 3000) from fun h => by omega)]
    clear hL hbo
    generalize sgn y = s at *
    generalize L y.natAbs = l at *
    go_enter Tryz.func22, Tryz.ntmps22
    go_upto_region 1 with fail
    rw [← HW.out]
    clear HW
    go_wp2_with fail
    refine HO.out.mono ?_
    rintro en w2 ⟨g, rfl, hz2, hb2⟩
    have hx0 := (hb2.block _ l0).trans HX0.out
    obtain ⟨p0, p1, p2, p3, k0⟩ := cellsN hx0
    obtain ⟨⟨h30, h31, h32⟩, h33⟩ := step.out w2 g hz2 hb2
    have HY0 := Lib.hid h30
    have HZ3 := Lib.hid h31
    have HB3 := Lib.hid h32
    have HY1 := Lib.hid h33
    clear hx0 hb2 hz2 h30 h31 h32 h33 step
    go_upto_region 2 with fail
    generalize hw3 : (w2.setCell ⟨w.heap.size, 0, none⟩ (.pointer (some ⟨g, 0, none⟩))).setCell ⟨w.heap.size, 1, none⟩ (.int .i64 x) = w3 at *
    clear hw3 p0 p1 p2 p3 k0
    obtain ⟨p0, p1, p2, p3, k0⟩ := cellsN HY0.out
    obtain ⟨r0, r1, r2, r3, r4, r5, k1⟩ := cellsD HY1.out
    go_wp2_with fail
    refine (HF.out w3 g HZ3.out).mono ?_
    rintro en w4 ⟨u, rfl, hR, hb4⟩
    obtain ⟨A, c, rfl⟩ := Kd.R_slice hR
    have hx0 := (hb4.block _ k0).trans HY0.out
    have hx1 := (hb4.block _ k1).trans HY1.out
    have hs4 := hb4.size
    clear p0 p1 p2 p3 r0 r1 r2 r3 r4 r5
    obtain ⟨p0, p1, p2, p3, m0⟩ := cellsN hx0
    obtain ⟨r0, r1, r2, r3, r4, r5, m1⟩ := cellsD hx1
    have HV1 := Lib.hid hx1
    have HR := Lib.hid (Kd.R_nil (Kd.int .i64) 2 w4 w.heap.size (fun _ => True))
    have HB4 := Lib.hid (HB3.out.trans (hb4.mono (Nat.le_of_lt k0)))
    clear hx0 hx1 hR hb4 HZ3 HB3 HY0 HY1
    go_wp2
    have hst := storedDA (s := 0) (x := 0) (.cells #[.int .i64 s, .slice A l.length c] 28) HV1.out HB4.out (by omega) HR.out
    exact bodyPost_ret (results_ct rfl _ _ (w.heap.size + 1) 30 #[.int .i64 0, .slice none 0 0, .int .i64 0] (0, 0) _ rfl hst.1 Tryz.underlying30 rfl sizeD) rfl ⟨_, rfl, hst.2.1, hst.2.2⟩
  · have HF := Lib.hid (fun (W : World) (g : Nat) (hz : Z W g y) => Mn.fromBig_no hz hbo hL)
    rw [if_neg (show ¬ (bl y.natAbs ≤ 2400 ∧ -3000 ≤ x ∧ x ≤ 3000) from fun h => hL h.1)]
    clear hL hbo
    go_enter Tryz.func22, Tryz.ntmps22
    go_upto_region 1 with fail
    rw [← HW.out]
    clear HW
    go_wp2_with fail
    refine HO.out.mono ?_
    rintro en w2 ⟨g, rfl, hz2, hb2⟩
    have hx0 := (hb2.block _ l0).trans HX0.out
    obtain ⟨p0, p1, p2, p3, k0⟩ := cellsN hx0
    obtain ⟨⟨h30, h31, h32⟩, h33⟩ := step.out w2 g hz2 hb2
    have HY0 := Lib.hid h30
    have HZ3 := Lib.hid h31
    have HB3 := Lib.hid h32
    have HY1 := Lib.hid h33
    clear hx0 hb2 hz2 h30 h31 h32 h33 step
    go_upto_region 2 with fail
    generalize hw3 : (w2.setCell ⟨w.heap.size, 0, none⟩ (.pointer (some ⟨g, 0, none⟩))).setCell ⟨w.heap.size, 1, none⟩ (.int .i64 x) = w3 at *
    clear hw3 p0 p1 p2 p3 k0
    obtain ⟨p0, p1, p2, p3, k0⟩ := cellsN HY0.out
    obtain ⟨r0, r1, r2, r3, r4, r5, k1⟩ := cellsD HY1.out
    go_wp2_with fail
    refine (HF.out w3 g HZ3.out).mono ?_
    rintro en w4 ⟨u, rfl, hR, hb4⟩
    obtain ⟨A, c, rfl⟩ := Kd.R_slice hR
    have hx0 := (hb4.block _ k0).trans HY0.out
    have hx1 := (hb4.block _ k1).trans HY1.out
    have hs4 := hb4.size
    clear p0 p1 p2 p3 r0 r1 r2 r3 r4 r5
    obtain ⟨p0, p1, p2, p3, m0⟩ := cellsN hx0
    obtain ⟨r0, r1, r2, r3, r4, r5, m1⟩ := cellsD hx1
    have HV1 := Lib.hid hx1
    have HR := Lib.hid (Kd.R_nil (Kd.int .i64) 2 w4 w.heap.size (fun _ => True))
    have HB4 := Lib.hid (HB3.out.trans (hb4.mono (Nat.le_of_lt k0)))
    clear hx0 hx1 hR hb4 HZ3 HB3 HY0 HY1
    go_wp2
    have hst := storedDA (s := 0) (x := 0) (.cells #[.int .i64 0, .slice A 0 c] 28) HV1.out HB4.out (by omega) HR.out
    exact bodyPost_ret (results_ct rfl _ _ (w.heap.size + 1) 30 #[.int .i64 0, .slice none 0 0, .int .i64 0] (0, 0) _ rfl hst.1 Tryz.underlying30 rfl sizeD) rfl ⟨_, rfl, hst.2.1, hst.2.2⟩
end Go.Proofs.YtjggbalhpflbbaaGreat.Nf
end
section
set_option linter.unusedVariables false
set_option linter.unusedSimpArgs false
namespace Go.Proofs.YtjggbalhpflbbaaGreat.Ng
open Go.RowKit Go.Proofs.YtjggbalhpflbbaaGreatW.PrintWords Go.Proofs.YtjggbalhpflbbaaGreat.PW Go.Proofs.YtjggbalhpflbbaaGreat.Pc Go.Proofs.YtjggbalhpflbbaaGreat.Pb Go.Proofs.YtjggbalhpflbbaaGreat.Pw Go.Proofs.YtjggbalhpflbbaaGreat.Ma Go.Proofs.YtjggbalhpflbbaaGreat.Mh Go.Proofs.YtjggbalhpflbbaaGreat.Mu Go.Proofs.YtjggbalhpflbbaaGreat.Na Go.Proofs.YtjggbalhpflbbaaGreat.Nd Go.Proofs.YtjggbalhpflbbaaGreat.Qa Dg
theorem cID {w : World} {s e : Int} {A : Option Addr} {c : Nat} {l : List Int} (hC : (Kd.int .i64).C w A l.length l) (hc : l.length ≤ c) :
    Calls Tryz.prog 40 #[.agg #[.int .i64 s, .slice A l.length c, .int .i64 e]] w fun en w' => en = .returned (.bool (isD s l e)) ∧ Below w.heap.size w w' := by
  obtain ⟨k, hk⟩ := (idIs s l e hC.2.1).rounds
  exact impl_IsDyadic.calls k s A c l e _ w hC hc hk
def Two (w W : World) (s e : Int) (A : Option Addr) (n c : Nat) : Prop :=
  (W.cell? ⟨w.heap.size, 0, none⟩ = some (.int .i64 s) ∧ W.cell? ⟨w.heap.size, 1, none⟩ = some (.slice A n c) ∧ W.cell? ⟨w.heap.size, 2, none⟩ = some (.int .i64 e)) ∧
  (W.cell? ⟨w.heap.size + 1, 0, none⟩ = some (.int .i64 0) ∧ W.cell? ⟨w.heap.size + 1, 1, none⟩ = some (.slice none 0 0) ∧ W.cell? ⟨w.heap.size + 1, 2, none⟩ = some (.int .i64 0) ∧ W.frozen? ⟨w.heap.size + 1, 0, none⟩ = false ∧ W.frozen? ⟨w.heap.size + 1, 1, none⟩ = false ∧ W.frozen? ⟨w.heap.size + 1, 2, none⟩ = false) ∧
  (w.heap.size < W.heap.size ∧ w.heap.size + 1 < W.heap.size) ∧ W.heap[w.heap.size + 1]? = some (.cells #[.int .i64 0, .slice none 0 0, .int .i64 0] 30 (0, 0)) ∧ Below w.heap.size w W
theorem two (w : World) (s e : Int) (A : Option Addr) (n c : Nat) {W0 : World} (hW0 : W0 = (w.alloc (.cells #[.int .i64 s, .slice A n c, .int .i64 e] 30)).alloc (.cells #[.int .i64 0, .slice none 0 0, .int .i64 0] 30)) :
    Below w.heap.size w W0 ∧ ∀ W, Below W0.heap.size W0 W → Two w W s e A n c := by
  obtain ⟨hb0, hx0, hx1, hs0⟩ := boxes2 w (.cells #[.int .i64 s, .slice A n c, .int .i64 e] 30) (.cells #[.int .i64 0, .slice none 0 0, .int .i64 0] 30) W0 (by rw [hW0]; exact Below.refl _ _)
  refine ⟨hb0, fun W hb => ?_⟩
  have hy0 := (hb.block _ (by omega)).trans hx0
  have hy1 := (hb.block _ (by omega)).trans hx1
  obtain ⟨a0, a1, a2, a3, a4, a5, a6⟩ := cellsD hy0
  obtain ⟨b0, b1, b2, b3, b4, b5, b6⟩ := cellsD hy1
  exact ⟨⟨a0, a1, a2⟩, ⟨b0, b1, b2, b3, b4, b5⟩, ⟨a6, b6⟩, hy1, hb0.trans (hb.mono (Nat.le_trans (by omega) hs0))⟩
end Go.Proofs.YtjggbalhpflbbaaGreat.Ng
end
section
set_option linter.unusedVariables false
set_option linter.unusedSimpArgs false
namespace Go.Proofs.YtjggbalhpflbbaaGreat.Vr
open Go.RowKit Go.Proofs.YtjggbalhpflbbaaGreatW.PrintWords Go.Proofs.YtjggbalhpflbbaaGreatW.PrintMore Go.Proofs.YtjggbalhpflbbaaGreat.PW Go.Proofs.YtjggbalhpflbbaaGreat.Pb Go.Proofs.YtjggbalhpflbbaaGreat.Pc Go.Proofs.YtjggbalhpflbbaaGreat.Pm Go.Proofs.YtjggbalhpflbbaaGreat.Pw Go.Proofs.YtjggbalhpflbbaaGreat.Ma Go.Proofs.YtjggbalhpflbbaaGreat.Mh Go.Proofs.YtjggbalhpflbbaaGreat.Mu Go.Proofs.YtjggbalhpflbbaaGreat.Na Go.Proofs.YtjggbalhpflbbaaGreat.Nd Go.Proofs.YtjggbalhpflbbaaGreat.Ng Go.Proofs.YtjggbalhpflbbaaGreat.Nr Go.Proofs.YtjggbalhpflbbaaGreat.Qa Go.Proofs.YtjggbalhpflbbaaGreat.Re Go.Proofs.YtjggbalhpflbbaaGreat.Rf Go.Proofs.YtjggbalhpflbbaaGreat.Sr Dg Fp
theorem rnd_zero (e mode : Int) : rnd 0 e mode = (0, 0) := by unfold rnd; rw [if_pos rfl]
theorem nroundA {w : World} {q : Nat} {z e mode : Int} (hz : Z w q z) (h1 : bl z.natAbs ≤ 1000000) (h2 : -1000000 ≤ e) (h3 : e ≤ 1000000) (h4 : 0 ≤ mode) (h5 : mode ≤ 4) :
    Calls Tryz.prog 42 #[.agg #[.pointer (some ⟨q, 0, none⟩), .int .i64 e], .int .i64 mode] w fun en w' => en = .returned (.tuple #[.float .f32 (rnd z e mode).1, .int .i64 (rnd z e mode).2]) ∧ Below w.heap.size w w' := by
  by_cases h0 : z = 0
  · subst h0
    rw [rnd_zero]
    exact nround0 hz
  · exact nround hz h0 h1 h2 h3 h4 h5
theorem cMode {w : World} (mode : Int) : Calls Tryz.prog 41 #[.int .i64 mode] w fun en w' => en = .returned (.bool (decide (0 ≤ mode ∧ mode ≤ 4))) ∧ Below w.heap.size w w' := by
  refine (impl_isMode.calls mode (decide (0 ≤ mode ∧ mode ≤ 4)) w ?_).mono fun en w' h => ⟨h.1, h.2.below⟩
  unfold impl_isMode.f
  by_cases h : mode ≥ 0
  · rw [if_pos h]
    congr 1
    rw [Bool.eq_iff_iff, decide_eq_true_iff, decide_eq_true_iff]
    omega
  · rw [if_neg h, decide_eq_false (by omega)]
theorem isD_odd {s e : Int} {l : List Int} (h : isD s l e = true) (hs : wv s l ≠ 0) : (wv s l).natAbs % 2 = 1 := by
  obtain ⟨e1, e2, e3⟩ := isW_eq (isD_W h)
  unfold isD at h
  rw [Bool.and_eq_true] at h
  have h2 := h.2
  have hs0 : s ≠ 0 := by rw [e1]; intro hh; apply hs; unfold sgn at hh; split at hh <;> (try split at hh) <;> omega
  rw [if_neg hs0, Bool.and_eq_true, decide_eq_true_iff, e2, L_getD] at h2
  have h3 := h2.1
  rw [Nat.pow_zero, Nat.div_one] at h3
  omega
theorem sroundA {w : World} {A : Option Addr} {c : Nat} {s e mode : Int} {l : List Int} (h : isD s l e = true) (h3 : 0 ≤ mode) (h4 : mode ≤ 4) (hC : (Kd.int .i64).C w A l.length l) (hc : l.length ≤ c) :
    Calls Tryz.prog 13 #[.agg #[.int .i64 s, .slice A l.length c, .int .i64 e], .int .i64 mode] w fun en w' => en = .returned (.tuple #[.float .f32 (rnd (wv s l) e mode).1, .int .i64 (rnd (wv s l) e mode).2]) ∧ Below w.heap.size w w' := by
  obtain ⟨e1, e2, e3⟩ := isW_eq (isD_W h)
  have he := isD_e h
  by_cases h0 : wv s l = 0
  · rw [h0, rnd_zero]
    have hs : s = 0 := by rw [e1, h0]; rfl
    subst hs
    exact sround0
  · have ho := isD_odd h h0
    generalize wv s l = z at *
    subst e1 e2
    exact sround h0 ho (by omega) (by omega) (by omega) h3 h4 hC hc
def rdD (s : Int) (l : List Int) (e mode : Int) : Nat × Int × Int := if isD s l e = true then (if 0 ≤ mode ∧ mode ≤ 4 then ((rnd (wv s l) e mode).1, (rnd (wv s l) e mode).2, 0) else (0, 0, 2)) else (0, 0, 1)
theorem oneD (w : World) (s e : Int) (A : Option Addr) (n c : Nat) {W0 : World} (hW0 : W0 = w.alloc (.cells #[.int .i64 s, .slice A n c, .int .i64 e] 30)) :
    Below w.heap.size w W0 ∧ ∀ W, Below W0.heap.size W0 W → (W.cell? ⟨w.heap.size, 0, none⟩ = some (.int .i64 s) ∧ W.cell? ⟨w.heap.size, 1, none⟩ = some (.slice A n c) ∧ W.cell? ⟨w.heap.size, 2, none⟩ = some (.int .i64 e)) ∧ Below w.heap.size w W := by
  obtain ⟨hb0, hx0, hs0⟩ := boxes1 w (.cells #[.int .i64 s, .slice A n c, .int .i64 e] 30) W0 (by rw [hW0]; exact Below.refl _ _)
  refine ⟨hb0, fun W hb => ?_⟩
  obtain ⟨a0, a1, a2, _⟩ := cellsD ((hb.block _ (by omega)).trans hx0)
  exact ⟨⟨a0, a1, a2⟩, below_then hb0 hb⟩
theorem iRoundD {w : World} {A : Option Addr} {c : Nat} {s e mode : Int} {l : List Int} (hC : (Kd.int .i64).C w A l.length l) (hc : l.length ≤ c) :
    Calls Tryz.prog 18 #[.agg #[.int .i64 s, .slice A l.length c, .int .i64 e], .int .i64 mode] w fun en w' => en = .returned (.tuple #[.float .f32 (rdD s l e mode).1, .int .i64 (rdD s l e mode).2.1, .int .i64 (rdD s l e mode).2.2]) ∧ Below w.heap.size w w' := by
  obtain ⟨W0, hW0⟩ : ∃ W0, W0 = w.alloc (.cells #[.int .i64 s, .slice A l.length c, .int .i64 e] 30) := ⟨_, rfl⟩
  obtain ⟨hb0, stay0⟩ := oneD w s e A l.length c hW0
  have stay := Lib.hid stay0
  have HI0 := fun (W : World) (hb : Below W0.heap.size W0 W) => cID (s := s) (e := e) (C_at (C_at hC hb0) hb) hc
  have HM0 := fun (W : World) => cMode (w := W) mode
  have HC0 := Lib.hid (fun (W : World) (hb : Below W0.heap.size W0 W) => C_at (C_at hC hb0) hb)
  have HW := Lib.hid hW0
  clear hW0 stay0
  cases hw : isD s l e with
  | false =>
    rw [show rdD s l e mode = (0, 0, 1) by unfold rdD; rw [if_neg (by rw [hw]; simp)]]
    rw [hw] at HI0
    have HI := Lib.hid HI0
    clear hw HI0 HM0 hb0 hC hc
    go_enter Tryz.func18, Tryz.ntmps18
    go_upto_region 1 with fail
    rw [← HW.out]
    clear HW
    obtain ⟨⟨c0, c1, c2⟩, hbw⟩ := stay.out W0 (Below.refl _ _)
    clear hbw
    go_wp2_with fail
    refine (HI.out W0 (Below.refl _ _)).mono ?_
    rintro en w1 ⟨rfl, hb⟩
    have HB := Lib.hid (stay.out w1 hb).2
    clear hb
    go_wp2
    go_ret3
    exact ⟨rfl, HB.out⟩
  | true =>
    rw [hw] at HI0
    have HI := Lib.hid HI0
    by_cases hm : 0 ≤ mode ∧ mode ≤ 4
    · have HR := Lib.hid (show rdD s l e mode = ((rnd (wv s l) e mode).1, (rnd (wv s l) e mode).2, 0) by unfold rdD; rw [if_pos hw, if_pos hm])
      rw [decide_eq_true hm] at HM0
      have HM := Lib.hid HM0
      have he := isD_e hw
      have hwb := (isW_eq (isD_W hw)).2.2
      have HN := Lib.hid (fun (W : World) (hb : Below W0.heap.size W0 W) => numberOf (e := e) (c := c) (HC0.out W hb) (isD_W hw))
      have HD := Lib.hid (fun (W : World) (g : Nat) (hz : Z W g (wv s l)) => nroundA (e := e) (mode := mode) hz (by omega) (by omega) (by omega) hm.1 hm.2)
      clear hw HI0 HM0 hb0 hC hc hm he hwb HC0
      generalize wv s l = z at *
      go_enter Tryz.func18, Tryz.ntmps18
      go_upto_region 1 with fail
      rw [← HW.out]
      clear HW
      obtain ⟨⟨c0, c1, c2⟩, hbw⟩ := stay.out W0 (Below.refl _ _)
      clear hbw
      go_wp2_with fail
      refine (HI.out W0 (Below.refl _ _)).mono ?_
      rintro en w1 ⟨rfl, hb⟩
      have HB1 := Lib.hid hb
      clear hb c0 c1 c2
      go_wp2_with fail
      refine (HM.out _).mono ?_
      rintro en w2 ⟨rfl, hb⟩
      have HB2 := Lib.hid (below_then HB1.out hb)
      clear hb
      obtain ⟨⟨c0, c1, c2⟩, hbw⟩ := stay.out w2 HB2.out
      clear hbw
      go_wp2_with fail
      refine (HN.out _ HB2.out).mono ?_
      rintro en w3 ⟨g, rfl, hz, hb⟩
      have HZ := Lib.hid hz
      have HB3 := Lib.hid (below_then HB2.out hb)
      clear hz hb c0 c1 c2
      go_wp2_with fail
      refine (HD.out _ _ HZ.out).mono ?_
      rintro en w4 ⟨rfl, hb⟩
      have HB4 := Lib.hid (stay.out w4 (below_then HB3.out hb)).2
      clear hb
      go_wp2
      go_ret3
      exact ⟨by rw [HR.out]; rfl, HB4.out⟩
    · rw [show rdD s l e mode = (0, 0, 2) by unfold rdD; rw [if_pos hw, if_neg hm]]
      rw [decide_eq_false hm] at HM0
      have HM := Lib.hid HM0
      clear hw HI0 HM0 hb0 hC hc hm HC0
      go_enter Tryz.func18, Tryz.ntmps18
      go_upto_region 1 with fail
      rw [← HW.out]
      clear HW
      obtain ⟨⟨c0, c1, c2⟩, hbw⟩ := stay.out W0 (Below.refl _ _)
      clear hbw
      go_wp2_with fail
      refine (HI.out W0 (Below.refl _ _)).mono ?_
      rintro en w1 ⟨rfl, hb⟩
      have HB1 := Lib.hid hb
      clear hb c0 c1 c2
      go_wp2_with fail
      refine (HM.out _).mono ?_
      rintro en w2 ⟨rfl, hb⟩
      have HB2 := Lib.hid (stay.out w2 (below_then HB1.out hb)).2
      clear hb
      go_wp2
      go_ret3
      exact ⟨rfl, HB2.out⟩
theorem smode (mode : Int) : spec_l03Mode.f mode = some (decide (0 ≤ mode ∧ mode ≤ 4)) := by
  unfold spec_l03Mode.f
  by_cases h : 0 ≤ mode ∧ mode ≤ 4
  · rw [in_true h.1 h.2, decide_eq_true h]; rfl
  · rw [in_false (by omega), decide_eq_false h]; rfl
theorem scode (s : Int) (l : List Int) (e mode : Int) (hl : l.length ≤ 9223372036854775807) : Ev (fun k => spec_l03Code.f k s l e mode) (rdD s l e mode).2.2 := by
  unfold spec_l03Code.f rdD
  refine Ev.bind (f := fun k t => _) (sdIs s l e hl) ?_
  cases hw : isD s l e with
  | false =>
    simp only [Bool.false_eq_true, if_false]
    exact ev_of fun _ => rfl
  | true =>
    simp only [if_true]
    by_cases h : 0 ≤ mode ∧ mode ≤ 4
    · rw [if_pos h]
      exact ev_of fun _ => by rw [smode, decide_eq_true h]; rfl
    · rw [if_neg h]
      exact ev_of fun _ => by rw [smode, decide_eq_false h]; rfl
theorem cCode {w : World} {s e mode : Int} {A : Option Addr} {c : Nat} {l : List Int} (hC : (Kd.int .i64).C w A l.length l) (hc : l.length ≤ c) :
    Calls Tryz.prog 12 #[.agg #[.int .i64 s, .slice A l.length c, .int .i64 e], .int .i64 mode] w fun en w' => en = .returned (.int .i64 (rdD s l e mode).2.2) ∧ Below w.heap.size w w' := by
  obtain ⟨k, hk⟩ := (scode s l e mode hC.2.1).rounds
  exact spec_l03Code.calls k s A c l e mode _ w hC hc hk
end Go.Proofs.YtjggbalhpflbbaaGreat.Vr
end
section
set_option linter.unusedVariables false
set_option linter.unusedSimpArgs false
namespace Go.Proofs.YtjggbalhpflbbaaGreat.Va
open Go.RowKit Go.Proofs.YtjggbalhpflbbaaGreatW.PrintWords Go.Proofs.YtjggbalhpflbbaaGreat.PW Go.Proofs.YtjggbalhpflbbaaGreat.Pc Go.Proofs.YtjggbalhpflbbaaGreat.Pb Go.Proofs.YtjggbalhpflbbaaGreat.Pw Go.Proofs.YtjggbalhpflbbaaGreat.Pm Go.Proofs.YtjggbalhpflbbaaGreat.Ma Go.Proofs.YtjggbalhpflbbaaGreat.Mc Go.Proofs.YtjggbalhpflbbaaGreat.Mh Go.Proofs.YtjggbalhpflbbaaGreat.Mu Go.Proofs.YtjggbalhpflbbaaGreat.Na Go.Proofs.YtjggbalhpflbbaaGreat.Nd Go.Proofs.YtjggbalhpflbbaaGreat.Nf Go.Proofs.YtjggbalhpflbbaaGreat.Qa Dg Fp
def zf (x : Nat) : Int := sv (sg Ieee.single x) (Wc.mant x)
theorem zf_natAbs (x : Nat) : (zf x).natAbs = Wc.mant x := by
  unfold zf sv
  split <;> omega
theorem mant_lt (x : Nat) : Wc.mant x < 16777216 := by
  unfold Wc.mant
  split <;> omega
theorem zf_bl (x : Nat) : bl (zf x).natAbs ≤ 24 := by
  rw [zf_natAbs]
  exact bl_le (mant_lt x)
theorem expo_bd {x : Nat} (h : fin Ieee.single x = true) : -149 ≤ Wc.expo x ∧ Wc.expo x ≤ 104 := by
  unfold fin rg at h
  rw [sw32, ir32] at h
  have h := of_decide_eq_true h
  unfold Wc.expo
  split <;> omega
theorem nnumOf {w : World} (x : Nat) (hx : x < 4294967296) :
    Calls Tryz.prog 19 #[.float .f32 x] w (GivesN w (zf x) (Wc.expo x)) := by
  obtain ⟨W0, hW0⟩ : ∃ W0, W0 = w.alloc (.cells #[.pointer none, .int .i64 0] 50) := ⟨_, rfl⟩
  obtain ⟨hb0, hx0, hs0⟩ := boxes1 w (.cells #[.pointer none, .int .i64 0] 50) W0 (by rw [hW0]; exact Below.refl _ _)
  have HP := Lib.hid (fun (W : World) => Wc.parts x hx W)
  have HB0 := Lib.hid hb0
  have HX0 := Lib.hid hx0
  have HW := Lib.hid hW0
  have h1 := mant_lt x
  have h2 := zf_natAbs x
  have HN := Lib.hid (fun (W : World) => newInt (w := W) (n := zf x) (by omega) (by omega))
  obtain ⟨d0, d1, f0, f1, l1⟩ := cellsN hx0
  clear hb0 hx0 hW0 h1 h2
  unfold zf at *
  generalize Wc.expo x = e at *
  generalize sv (sg Ieee.single x) (Wc.mant x) = z at *
  go_enter Tryz.func19, Tryz.ntmps19
  go_upto_region 1 with fail
  rw [← HW.out]
  clear HW
  go_wp2_with fail
  refine (HP.out _).mono ?_
  rintro en w1 ⟨rfl, rfl⟩
  go_wp2_with fail
  refine (HN.out _).mono ?_
  rintro en w2 ⟨g, rfl, hz, hg, hb⟩
  have hx1 := (hb.block _ l1).trans HX0.out
  clear d0 d1 f0 f1
  obtain ⟨b0, b1, g0, g1, k1⟩ := cellsN hx1
  have HX2 := Lib.hid hx1
  have HB2 := Lib.hid (below_then HB0.out hb)
  have HZ2 := Lib.hid hz
  clear hz hb hx1
  go_wp2
  have hst := storedN (e := e) HX2.out HB2.out (by omega) HZ2.out
  exact bodyPost_ret (results_single rfl (.cell w.heap.size 50 #[.pointer (some ⟨_, 0, none⟩), .int .i64 e] (0, 0) _ rfl hst.1 Tryz.underlying50 rfl sizeN .nil)) rfl ⟨_, rfl, hst.2.1, hst.2.2⟩
end Go.Proofs.YtjggbalhpflbbaaGreat.Va
end
section
set_option linter.unusedVariables false
set_option linter.unusedSimpArgs false
namespace Go.Proofs.YtjggbalhpflbbaaGreat.Vb
open Go.RowKit Go.Proofs.YtjggbalhpflbbaaGreatW.PrintWords Go.Proofs.YtjggbalhpflbbaaGreat.PW Go.Proofs.YtjggbalhpflbbaaGreat.Pc Go.Proofs.YtjggbalhpflbbaaGreat.Pb Go.Proofs.YtjggbalhpflbbaaGreat.Pw Go.Proofs.YtjggbalhpflbbaaGreat.Pm Go.Proofs.YtjggbalhpflbbaaGreat.Pv Go.Proofs.YtjggbalhpflbbaaGreat.Ma Go.Proofs.YtjggbalhpflbbaaGreat.Mc Go.Proofs.YtjggbalhpflbbaaGreat.Mh Go.Proofs.YtjggbalhpflbbaaGreat.Mu Go.Proofs.YtjggbalhpflbbaaGreat.Na Go.Proofs.YtjggbalhpflbbaaGreat.Nd Go.Proofs.YtjggbalhpflbbaaGreat.Nf Go.Proofs.YtjggbalhpflbbaaGreat.Qa Go.Proofs.YtjggbalhpflbbaaGreat.Va Dg Fp
theorem zf_neg {x : Nat} (hx : x < 4294967296) (hf : fin Ieee.single x = true) : zf x = if pl Ieee.single x < 0 then -(Wc.mant x : Int) else (Wc.mant x : Int) := by
  have hm0 : pl Ieee.single x = 0 → Wc.mant x = 0 := fun h => by
    have h1 := Wc.pl32 x
    rw [h] at h1
    have h2 : x % 2147483648 = 0 := by
      unfold sv at h1
      split at h1 <;> omega
    unfold Wc.mant
    rw [if_pos (by omega)]
    omega
  unfold zf
  by_cases h0 : pl Ieee.single x = 0
  · rw [if_neg (by omega), hm0 h0]; unfold sv; split <;> rfl
  · rw [Wd.sg_of_pl h0]; unfold sv; by_cases hlt : pl Ieee.single x < 0 <;> simp [hlt]
theorem sl03Of {w : World} (x : Nat) (hx : x < 4294967296) (hf : fin Ieee.single x = true) :
    Calls Tryz.prog 16 #[.float .f32 x] w fun en w' => ∃ u, en = .returned (.agg #[.int .i64 (dy (zf x) (Wc.expo x)).1, u, .int .i64 (dy (zf x) (Wc.expo x)).2.2]) ∧ Kd.R (Kd.int .i64) 2 w' w.heap.size (fun _ => True) u (dy (zf x) (Wc.expo x)).2.1 ∧ Below w.heap.size w w' := by
  obtain ⟨W0, hW0⟩ : ∃ W0, W0 = w.alloc (.cells #[.int .i64 0, .slice none 0 0, .int .i64 0] 30) := ⟨_, rfl⟩
  obtain ⟨hb0, hx0, hs0⟩ := boxes1 w (.cells #[.int .i64 0, .slice none 0 0, .int .i64 0] 30) W0 (by rw [hW0]; exact Below.refl _ _)
  have HP := Lib.hid (fun (W : World) => We.l01Parts x hx hf W)
  have HB0 := Lib.hid hb0
  have HX0 := Lib.hid hx0
  have HW := Lib.hid hW0
  obtain ⟨d0, d1, d2, f0, f1, f2, l1⟩ := cellsD hx0
  clear hb0 hx0 hW0
  have he := expo_bd hf
  have hz1 := zf_bl x
  have hm := mant_lt x
  have hza := zf_natAbs x
  have hn : nan Ieee.single x = false := by unfold fin nan at *; simp at *; omega
  have hl := Wd.lt32 hx (by decide : 0 < 4294967296) hn Wd.nan0
  rw [Wd.pl0] at hl
  have hneg := zf_neg hx hf
  obtain ⟨K0, hK0⟩ := (sof (zf x) (by omega) (by omega)).rounds
  obtain ⟨K1, hK1⟩ := (smakeD (zf x) (Wc.expo x) (by omega) (by omega) (by omega)).rounds
  generalize dy (zf x) (Wc.expo x) = r at *
  obtain ⟨r1, r2, r3⟩ := r
  have HO := Lib.hid (fun (W : World) => spec_l02Of.calls K0 (zf x) _ _ W hK0)
  have HM := Lib.hid (fun (W : World) (A : Option Addr) (c : Nat) (h1 : Kd.C (Kd.int .i64) W A (L (zf x).natAbs).length (L (zf x).natAbs)) (h2 : (L (zf x).natAbs).length ≤ c) => spec_l03Make.calls K1 (sgn (zf x)) A c (L (zf x).natAbs) (Wc.expo x) _ _ _ W h1 h2 hK1)
  clear he hz1 hf hn hza hK0 hK1
  generalize sgn (zf x) = s at *
  generalize L (zf x).natAbs = l at *
  generalize Wc.expo x = e at *
  generalize zf x = z at *
  generalize Wc.mant x = m at *
  have hm0 : (0 : Int) ≤ m := by omega
  have hz : z = (m : Int) ∨ z = -(m : Int) := by split at hneg <;> omega
  by_cases hlt : pl Ieee.single x < 0
  all_goals
    first
      | (rw [if_pos hlt] at hneg; rw [show decide (pl Ieee.single x < 0) = true by simpa using hlt] at hl)
      | (rw [if_neg hlt] at hneg; rw [show decide (pl Ieee.single x < 0) = false by simpa using hlt] at hl)
    have HG := Lib.hid hneg
    clear hlt hneg
    go_enter Tryz.func16, Tryz.ntmps16
    go_upto_region 1 with fail
    rw [← HW.out]
    clear HW
    go_wp2_with fail
    refine (HP.out _).mono ?_
    rintro en w1 ⟨rfl, rfl⟩
    go_wp2_with fail
    try rw [← HG.out]
    refine (HO.out _).mono ?_
    rintro en w2 ⟨u, rfl, hR, hb⟩
    obtain ⟨A, c, rfl⟩ := Kd.R_slice hR
    have HR := Lib.hid (Kd.R_reads' hR)
    have HB2 := Lib.hid hb
    clear hR hb d0 d1 d2 f0 f1 f2
    go_wp2_with fail
    refine (HM.out _ _ _ HR.out.2.2 HR.out.2.1).mono ?_
    rintro en w3 ⟨u, rfl, hR, hb⟩
    obtain ⟨A3, c3, rfl⟩ := Kd.R_slice hR
    have hb3 := below_then HB2.out hb
    have hx1 := (hb3.block _ l1).trans HX0.out
    obtain ⟨b0, b1, b2, g0, g1, g2, k1⟩ := cellsD hx1
    have HX2 := Lib.hid hx1
    have HB3 := Lib.hid (below_then HB0.out hb3)
    have HR3 := Lib.hid (Kd.R_lower (base' := w.heap.size) hR (by have h5 := HB2.out.size; have h6 := HB0.out.size; omega))
    clear hR hb hb3 hx1
    go_wp2
    have hst := storedD (s := r1) (x := r3) (u := .slice A3 r2.length c3) HX2.out HB3.out (by omega) HR3.out
    exact bodyPost_ret (results_single rfl (.cell w.heap.size 30 #[.int .i64 r1, .slice A3 r2.length c3, .int .i64 r3] (0, 0) _ rfl hst.1 Tryz.underlying30 rfl sizeD .nil)) rfl ⟨_, rfl, hst.2.1, hst.2.2⟩
end Go.Proofs.YtjggbalhpflbbaaGreat.Vb
end
