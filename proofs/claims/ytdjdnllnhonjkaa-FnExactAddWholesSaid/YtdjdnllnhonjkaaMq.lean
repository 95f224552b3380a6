/- Walks: an integer as a result. -/
import Derived.Test.YtdjdnllnhonjkaaMo
set_option linter.unusedVariables false
set_option linter.unusedSimpArgs false
namespace Go.Proofs.Ytdjdnllnhonjkaa.Mq
open Go.RowKit Go.Proofs.YtdjdnllnhonjkaaW.PrintWords Go.Proofs.YtdjdnllnhonjkaaW.PrintLast Go.Proofs.YtdjdnllnhonjkaaW.PrintMore Go.Proofs.Ytdjdnllnhonjkaa.PW Go.Proofs.Ytdjdnllnhonjkaa.Pc Go.Proofs.Ytdjdnllnhonjkaa.Ma Go.Proofs.Ytdjdnllnhonjkaa.Mb Go.Proofs.Ytdjdnllnhonjkaa.Mc Go.Proofs.Ytdjdnllnhonjkaa.Md Go.Proofs.Ytdjdnllnhonjkaa.Me Go.Proofs.Ytdjdnllnhonjkaa.Mi Go.Proofs.Ytdjdnllnhonjkaa.Mj Go.Proofs.Ytdjdnllnhonjkaa.Mk Go.Proofs.Ytdjdnllnhonjkaa.Ml Go.Proofs.Ytdjdnllnhonjkaa.Mn Go.Proofs.Ytdjdnllnhonjkaa.Mo Dg
open Pm (sgn)

/-- A whole number that is handed back, beside a code. -/
def GivesC (w : World) (s : Int) (l : List Int) (c : Int) (e : Ending) (w' : World) : Prop :=
  ∃ u, e = .returned (.tuple #[.agg #[.int .i64 s, u], .int .i64 c]) ∧ Kd.R (Kd.int .i64) 2 w' w.heap.size (fun _ => True) u l ∧ Below w.heap.size w w'

set_option maxHeartbeats 1600000 in
theorem whole_yes {w : World} {q : Nat} {z : Int} (hz : Z w q z) (h1 : bl z.natAbs ≤ 2400) :
    Calls Try.prog 66 #[.pointer (some ⟨q, 0, none⟩)] w (GivesC w (sgn z) (L z.natAbs) 0) := by
  have hF := fun (W : World) (hb : Below w.heap.size w W) => fromBig_yes (hz.below hb) h1
  have HF := Lib.hid hF
  clear hF hz h1
  go_enter Try.func66, Try.ntmps66
  go_wp2_with fail
  refine (HF.out _ (Ma.below_alloc w _)).mono ?_
  rintro e w1 ⟨u, rfl, hR, hb⟩
  obtain ⟨A, c, rfl⟩ := Kd.R_slice hR
  have hB : w1.heap[w.heap.size]? = some (.cells #[.int .i64 0, .slice none 0 0] 28 (0, 0)) := (hb.block _ (by simp)).trans (heap_alloc_new w _)
  have c0 := blk_cell hB 0
  have c1 := blk_cell hB 1
  have f0 := blk_frozen hB 0
  have f1 := blk_frozen hB 1
  simp only [List.getElem?_toArray, List.getElem?_cons_zero, List.getElem?_cons_succ] at c0 c1
  have HB := Lib.hid hB
  have HR := Lib.hid (Kd.R_lower (base' := w.heap.size) hR (by simp))
  have HBL := Lib.hid (below_then (Ma.below_alloc w _) hb)
  clear hB hR hb
  have hlt : w.heap.size < w1.heap.size := (Array.getElem?_eq_some_iff.1 HB.out).1
  go_wp2
  have hB2 := blk_set (blk_set HB.out 0 (.int .i64 (sgn z))) 1 (.slice A (L z.natAbs).length c)
  have hb3 := Ma.below_alloc ((w1.setCell ⟨w.heap.size, 0, none⟩ (.int .i64 (sgn z))).setCell ⟨w.heap.size, 1, none⟩ (.slice A (L z.natAbs).length c)) (.cells #[.int .i64 (sgn z), .slice A (L z.natAbs).length c] 28)
  have hR3 := Kd.R_below (Kd.R_set (Kd.R_set HR.out HB.out (by decide) 0 (.int .i64 (sgn z))) (blk_set HB.out 0 (.int .i64 (sgn z))) (by decide) 1 (.slice A (L z.natAbs).length c)) hb3
  have hBE := below_then ((HBL.out.setCell (p := ⟨w.heap.size, 0, none⟩) (Nat.le_refl _) (.int .i64 (sgn z))).setCell (p := ⟨w.heap.size, 1, none⟩) (Nat.le_refl _) (.slice A (L z.natAbs).length c)) hb3
  exact bodyPost_ret (results_ct rfl _ _ w.heap.size 28 #[.int .i64 (sgn z), .slice A (L z.natAbs).length c] (0, 0) _ rfl ((hb3.block _ (Array.getElem?_eq_some_iff.1 hB2).1).trans hB2) Try.underlying28 rfl sizeW) rfl ⟨_, rfl, hR3, hBE⟩

set_option maxHeartbeats 1600000 in
theorem whole_no {w : World} {q : Nat} {z : Int} (hz : Z w q z) (h0 : bl z.natAbs ≤ 268435456) (h1 : ¬ bl z.natAbs ≤ 2400) :
    Calls Try.prog 66 #[.pointer (some ⟨q, 0, none⟩)] w (GivesC w 0 [] 3) := by
  have hF := fun (W : World) (hb : Below w.heap.size w W) => fromBig_no (hz.below hb) h0 h1
  have HF := Lib.hid hF
  clear hF hz h1 h0
  go_enter Try.func66, Try.ntmps66
  go_wp2_with fail
  refine (HF.out _ (Ma.below_alloc w _)).mono ?_
  rintro e w1 ⟨u, rfl, hR, hb⟩
  obtain ⟨A, c, rfl⟩ := Kd.R_slice hR
  have hB : w1.heap[w.heap.size]? = some (.cells #[.int .i64 0, .slice none 0 0] 28 (0, 0)) := (hb.block _ (by simp)).trans (heap_alloc_new w _)
  have c0 := blk_cell hB 0
  have c1 := blk_cell hB 1
  have f0 := blk_frozen hB 0
  have f1 := blk_frozen hB 1
  simp only [List.getElem?_toArray, List.getElem?_cons_zero, List.getElem?_cons_succ] at c0 c1
  have HB := Lib.hid hB
  have HBL := Lib.hid (below_then (Ma.below_alloc w _) hb)
  clear hB hR hb
  have hlt : w.heap.size < w1.heap.size := (Array.getElem?_eq_some_iff.1 HB.out).1
  go_wp2
  have hB2 := blk_set (blk_set HB.out 0 (.int .i64 0)) 1 (.slice none 0 0)
  have hb3 := Ma.below_alloc ((w1.setCell ⟨w.heap.size, 0, none⟩ (.int .i64 0)).setCell ⟨w.heap.size, 1, none⟩ (.slice none 0 0)) (.cells #[.int .i64 0, .slice A 0 c] 28)
  have hBE := below_then ((HBL.out.setCell (p := ⟨w.heap.size, 0, none⟩) (Nat.le_refl _) (.int .i64 0)).setCell (p := ⟨w.heap.size, 1, none⟩) (Nat.le_refl _) (.slice none 0 0)) hb3
  exact bodyPost_ret (results_ct rfl _ _ w.heap.size 28 #[.int .i64 0, .slice none 0 0] (0, 0) _ rfl ((hb3.block _ (Array.getElem?_eq_some_iff.1 hB2).1).trans hB2) Try.underlying28 rfl sizeW) rfl ⟨_, rfl, Kd.R_nil _ _ _ _ _, hBE⟩

end Go.Proofs.Ytdjdnllnhonjkaa.Mq
