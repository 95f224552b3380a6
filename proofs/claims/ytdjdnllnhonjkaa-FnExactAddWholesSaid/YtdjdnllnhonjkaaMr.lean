/- Walks: what the functions on two whole numbers share. -/
import Derived.Test.YtdjdnllnhonjkaaMq
import Derived.Test.YtdjdnllnhonjkaaKc
set_option linter.unusedVariables false
set_option linter.unusedSimpArgs false
namespace Go.Proofs.Ytdjdnllnhonjkaa.Mr
open Go.RowKit Go.Proofs.YtdjdnllnhonjkaaW.PrintWords Go.Proofs.Ytdjdnllnhonjkaa.PW Go.Proofs.Ytdjdnllnhonjkaa.Pc Go.Proofs.Ytdjdnllnhonjkaa.Pb Go.Proofs.Ytdjdnllnhonjkaa.Pw Go.Proofs.Ytdjdnllnhonjkaa.Ma Go.Proofs.Ytdjdnllnhonjkaa.Mb Go.Proofs.Ytdjdnllnhonjkaa.Mc Go.Proofs.Ytdjdnllnhonjkaa.Md Go.Proofs.Ytdjdnllnhonjkaa.Me Go.Proofs.Ytdjdnllnhonjkaa.Mg Go.Proofs.Ytdjdnllnhonjkaa.Mh Go.Proofs.Ytdjdnllnhonjkaa.Mq Dg

theorem fit_yes {z : Int} (h : bl z.natAbs ≤ 2400) : fit z = (Pm.sgn z, L z.natAbs, 0) := by unfold fit; rw [if_pos h]
theorem fit_no {z : Int} (h : ¬ bl z.natAbs ≤ 2400) : fit z = (0, [], 3) := by unfold fit; rw [if_neg h]

theorem whole {w : World} {q : Nat} {z : Int} (hz : Z w q z) (h0 : bl z.natAbs ≤ 268435456) :
    Calls Try.prog 66 #[.pointer (some ⟨q, 0, none⟩)] w (GivesC w (fit z).1 (fit z).2.1 (fit z).2.2) := by
  by_cases h : bl z.natAbs ≤ 2400
  · rw [fit_yes h]; exact whole_yes hz h
  · rw [fit_no h]; exact whole_no hz h0 h

/-- The answer of a function on two whole numbers that may be no ones. -/
def both (s0 : Int) (l0 : List Int) (s1 : Int) (l1 : List Int) (z : Int) : Int × List Int × Int := if isW s0 l0 = true ∧ isW s1 l1 = true then fit z else (0, [], 1)

/-- Two structs that were boxed at the start: what stays of them. -/
theorem twoBoxes (w : World) (a0 : Int) (A0 : Option Addr) (n0 c0 : Nat) (a1 : Int) (A1 : Option Addr) (n1 c1 : Nat) : ∀ W, Below (w.heap.size + 2) ((w.alloc (.cells #[.int .i64 a0, .slice A0 n0 c0] 28)).alloc (.cells #[.int .i64 a1, .slice A1 n1 c1] 28)) W →
    Below w.heap.size w W ∧ W.cell? ⟨w.heap.size, 0, none⟩ = some (.int .i64 a0) ∧ W.cell? ⟨w.heap.size, 1, none⟩ = some (.slice A0 n0 c0) ∧ W.cell? ⟨w.heap.size + 1, 0, none⟩ = some (.int .i64 a1) ∧ W.cell? ⟨w.heap.size + 1, 1, none⟩ = some (.slice A1 n1 c1) ∧ w.heap.size + 2 ≤ W.heap.size := by
  intro W hW
  have e1 : (w.alloc (.cells #[.int .i64 a0, .slice A0 n0 c0] 28)).heap.size = w.heap.size + 1 := by simp
  have hx := (hW.block w.heap.size (by omega)).trans (((Ma.below_alloc (w.alloc (.cells #[.int .i64 a0, .slice A0 n0 c0] 28)) _).block w.heap.size (by simp)).trans (heap_alloc_new w _))
  have hy := (hW.block (w.heap.size + 1) (by omega)).trans (show _ = some (.cells #[.int .i64 a1, .slice A1 n1 c1] 28 (0, 0)) by have := heap_alloc_new (w.alloc (.cells #[.int .i64 a0, .slice A0 n0 c0] 28)) (.cells #[.int .i64 a1, .slice A1 n1 c1] 28); rw [e1] at this; exact this)
  exact ⟨(below_then (Ma.below_alloc w _) (Ma.below_alloc _ _)).trans (hW.mono (by omega)), blk_cell hx 0, blk_cell hx 1, blk_cell hy 0, blk_cell hy 1, by have := hW.size; simp at this; exact this⟩

/-- One struct that was boxed at the start. -/
theorem oneBox (w : World) (a0 : Int) (A0 : Option Addr) (n0 c0 : Nat) : ∀ W, Below (w.heap.size + 1) (w.alloc (.cells #[.int .i64 a0, .slice A0 n0 c0] 28)) W →
    Below w.heap.size w W ∧ W.cell? ⟨w.heap.size, 0, none⟩ = some (.int .i64 a0) ∧ W.cell? ⟨w.heap.size, 1, none⟩ = some (.slice A0 n0 c0) ∧ w.heap.size + 1 ≤ W.heap.size := by
  intro W hW
  have hx := (hW.block w.heap.size (by omega)).trans (heap_alloc_new w _)
  exact ⟨(Ma.below_alloc w _).trans (hW.mono (by omega)), blk_cell hx 0, blk_cell hx 1, by have := hW.size; simp at this; exact this⟩
end Go.Proofs.Ytdjdnllnhonjkaa.Mr
