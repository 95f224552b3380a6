/- Walks: the boxes of functions that hand back a whole number. -/
import Derived.Test.YtdjdnllnhonjkaaMr
set_option linter.unusedVariables false
set_option linter.unusedSimpArgs false
namespace Go.Proofs.Ytdjdnllnhonjkaa.Mu
open Go.RowKit Go.Proofs.YtdjdnllnhonjkaaW.PrintWords Go.Proofs.Ytdjdnllnhonjkaa.PW Go.Proofs.Ytdjdnllnhonjkaa.Pc Go.Proofs.Ytdjdnllnhonjkaa.Pb Go.Proofs.Ytdjdnllnhonjkaa.Pw Go.Proofs.Ytdjdnllnhonjkaa.Ma Go.Proofs.Ytdjdnllnhonjkaa.Mb Go.Proofs.Ytdjdnllnhonjkaa.Mc Go.Proofs.Ytdjdnllnhonjkaa.Md Go.Proofs.Ytdjdnllnhonjkaa.Me Go.Proofs.Ytdjdnllnhonjkaa.Mg Go.Proofs.Ytdjdnllnhonjkaa.Mh Go.Proofs.Ytdjdnllnhonjkaa.Mq Go.Proofs.Ytdjdnllnhonjkaa.Mr Dg

theorem bl_add_natAbs (x y : Int) : bl (x + y).natAbs ≤ max (bl x.natAbs) (bl y.natAbs) + 1 :=
  Nat.le_trans (bl_mono (Int.natAbs_add_le x y)) (bl_add_le _ _)
theorem bl_sub_natAbs (x y : Int) : bl (x - y).natAbs ≤ max (bl x.natAbs) (bl y.natAbs) + 1 := by
  have := bl_add_natAbs x (-y)
  rw [Int.natAbs_neg] at this
  exact this
theorem bl_mul_natAbs (x y : Int) : bl (x * y).natAbs ≤ bl x.natAbs + bl y.natAbs := by
  rw [Int.natAbs_mul]
  exact bl_mul_le _ _

theorem alloc_size (w : World) (o : Obj) : (w.alloc o).heap.size = w.heap.size + 1 := by simp

/-- Two structs that were boxed at the start, and the result's. -/
theorem threeBoxes (w : World) (a0 : Int) (A0 : Option Addr) (n0 c0 : Nat) (a1 : Int) (A1 : Option Addr) (n1 c1 : Nat) : ∀ W, Below (w.heap.size + 3) (((w.alloc (.cells #[.int .i64 a0, .slice A0 n0 c0] 28)).alloc (.cells #[.int .i64 a1, .slice A1 n1 c1] 28)).alloc (.cells #[.int .i64 0, .slice none 0 0] 28)) W →
    Below w.heap.size w W ∧ W.cell? ⟨w.heap.size, 0, none⟩ = some (.int .i64 a0) ∧ W.cell? ⟨w.heap.size, 1, none⟩ = some (.slice A0 n0 c0) ∧ W.cell? ⟨w.heap.size + 1, 0, none⟩ = some (.int .i64 a1) ∧ W.cell? ⟨w.heap.size + 1, 1, none⟩ = some (.slice A1 n1 c1) ∧ (w.heap.size + 3 ≤ W.heap.size ∧ w.heap.size < W.heap.size ∧ w.heap.size + 1 < W.heap.size ∧ w.heap.size + 1 + 1 < W.heap.size) ∧ W.heap[w.heap.size + 1 + 1]? = some (.cells #[.int .i64 0, .slice none 0 0] 28 (0, 0)) := by
  intro W hW
  have e2 : ((w.alloc (.cells #[.int .i64 a0, .slice A0 n0 c0] 28)).alloc (.cells #[.int .i64 a1, .slice A1 n1 c1] 28)).heap.size = w.heap.size + 2 := by rw [alloc_size, alloc_size]
  have hz : ((((w.alloc (.cells #[.int .i64 a0, .slice A0 n0 c0] 28)).alloc (.cells #[.int .i64 a1, .slice A1 n1 c1] 28)).alloc (.cells #[.int .i64 0, .slice none 0 0] 28))).heap[w.heap.size + 2]? = some (.cells #[.int .i64 0, .slice none 0 0] 28 (0, 0)) := by
    have := heap_alloc_new ((w.alloc (.cells #[.int .i64 a0, .slice A0 n0 c0] 28)).alloc (.cells #[.int .i64 a1, .slice A1 n1 c1] 28)) (.cells #[.int .i64 0, .slice none 0 0] 28)
    rw [e2] at this; exact this
  have hb := Ma.below_alloc ((w.alloc (.cells #[.int .i64 a0, .slice A0 n0 c0] 28)).alloc (.cells #[.int .i64 a1, .slice A1 n1 c1] 28)) (.cells #[.int .i64 0, .slice none 0 0] 28)
  rw [e2] at hb
  obtain ⟨h1, h2, h3, h4, h5, h6⟩ := twoBoxes w a0 A0 n0 c0 a1 A1 n1 c1 W (hb.trans (hW.mono (by omega)))
  have h7 : w.heap.size + 3 ≤ W.heap.size := by have := hW.size; rw [alloc_size, e2] at this; exact this
  exact ⟨h1, h2, h3, h4, h5, ⟨h7, by omega, by omega, by omega⟩, (hW.block _ (by omega)).trans hz⟩

/-- One struct that was boxed at the start, and the result's. -/
theorem boxAndResult (w : World) (a0 : Int) (A0 : Option Addr) (n0 c0 : Nat) : ∀ W, Below (w.heap.size + 2) ((w.alloc (.cells #[.int .i64 a0, .slice A0 n0 c0] 28)).alloc (.cells #[.int .i64 0, .slice none 0 0] 28)) W →
    Below w.heap.size w W ∧ W.cell? ⟨w.heap.size, 0, none⟩ = some (.int .i64 a0) ∧ W.cell? ⟨w.heap.size, 1, none⟩ = some (.slice A0 n0 c0) ∧ (w.heap.size + 2 ≤ W.heap.size ∧ w.heap.size < W.heap.size ∧ w.heap.size + 1 < W.heap.size) ∧ W.heap[w.heap.size + 1]? = some (.cells #[.int .i64 0, .slice none 0 0] 28 (0, 0)) := by
  intro W hW
  obtain ⟨h1, h2, h3, h4, h5, h6⟩ := twoBoxes w a0 A0 n0 c0 0 none 0 0 W hW
  refine ⟨h1, h2, h3, ⟨h6, by omega, by omega⟩, (hW.block _ (by omega)).trans ?_⟩
  have := heap_alloc_new (w.alloc (.cells #[.int .i64 a0, .slice A0 n0 c0] 28)) (.cells #[.int .i64 0, .slice none 0 0] 28)
  rw [alloc_size] at this; exact this

/-- A result's cells behind their two stores. -/
theorem storedW {w W : World} {g : Nat} {s : Int} {u : Value} {l : List Int} (hg : W.heap[g]? = some (.cells #[.int .i64 0, .slice none 0 0] 28 (0, 0))) (hb : Below w.heap.size w W) (hw : w.heap.size ≤ g) (hR : Kd.R (Kd.int .i64) 2 W w.heap.size (fun _ => True) u l) :
    (((W.setCell ⟨g, 0, none⟩ (.int .i64 s)).setCell ⟨g, 1, none⟩ u)).heap[g]? = some (.cells #[.int .i64 s, u] 28 (0, 0)) ∧ Kd.R (Kd.int .i64) 2 ((W.setCell ⟨g, 0, none⟩ (.int .i64 s)).setCell ⟨g, 1, none⟩ u) w.heap.size (fun _ => True) u l ∧ Below w.heap.size w ((W.setCell ⟨g, 0, none⟩ (.int .i64 s)).setCell ⟨g, 1, none⟩ u) :=
  ⟨blk_set (blk_set hg 0 _) 1 _, Kd.R_set (Kd.R_set hR hg (by decide) 0 _) (blk_set hg 0 _) (by decide) 1 _, (hb.setCell (p := ⟨g, 0, none⟩) hw _).setCell (p := ⟨g, 1, none⟩) hw _⟩

theorem below_put {B q : Nat} {w w1 w2 : World} (h : Below B w w1) (k : w1.grownBy w2 (some q)) (hq : B ≤ q) (hw1 : B ≤ w1.heap.size) : Below B w w2 :=
  h.trans ⟨k.os, k.tape, k.output, k.size, fun i hi => k.block i (Nat.lt_of_lt_of_le hi hw1) (by simp; omega)⟩

theorem cellsOf {W : World} {g : Nat} (hg : W.heap[g]? = some (.cells #[.int .i64 0, .slice none 0 0] 28 (0, 0))) : W.cell? ⟨g, 0, none⟩ = some (.int .i64 0) ∧ W.cell? ⟨g, 1, none⟩ = some (.slice none 0 0) ∧ W.frozen? ⟨g, 0, none⟩ = false ∧ W.frozen? ⟨g, 1, none⟩ = false :=
  ⟨blk_cell hg 0, blk_cell hg 1, blk_frozen hg 0, blk_frozen hg 1⟩
end Go.Proofs.Ytdjdnllnhonjkaa.Mu
