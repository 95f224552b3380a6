/- Lemmas of the claim: Rk. -/
import Derived.Lib.SmallJoins
import Derived.ChangeOld
import Derived.ChangeSlices
import Derived.Carry
import Derived.Test.YtfinbmnjfnajiaaQRBe
section
namespace Go.Proofs.Ytfinbmnjfnajiaa.Rk
open Go.RowKit Go.ChangeShapes Go.WideShapes Go.ChangeAt Go.Joins Go.Deep Go.Proofs.YtfinbmnjfnajiaaW.PrintWords
set_option linter.unusedVariables false
section
variable {H : Type} {enc : TypeId × Value → H} {P : Program} {w : World}
def Row (k : IntKind) (w : World) (v : Value) (l : List Int) : Prop :=
  ∃ A c, v = .slice A l.length c ∧ (Kd.int k).C w A l.length l ∧ l.length ≤ c ∧ l.length ≤ maxLen ∧ ∀ x ∈ l, (Lit.int k x).wf = true
theorem row_of {t e : TypeId} {k : IntKind} {fuel : Nat} {v : Value} {y : DataW H × List MemPlace} (ht : P.underlying t = some (.slice e)) (he : P.underlying e = some (.int k)) (hc : P.cellsOf e = 1)
    (h : DataW.trod enc P w 0 (fun _ => true) true fuel t [v] = some y) : ∃ l, Row k w v l := by
  have : ∃ A len cap zs, v = .slice A len cap ∧ ((A = none ∧ len = 0 ∧ cap = 0 ∧ zs = []) ∨ ∃ x, A = some x ∧ len ≤ cap ∧ cap ≤ maxLen ∧ zs.length = cap ∧ (∀ i, i < zs.length → w.cell? (x.add i) = some (.int k (zs.getD i 0))) ∧ ∀ n ∈ zs, (Lit.int k n).wf = true) := by
    rcases open_ints ht he hc h with ⟨hcs, _⟩ | ⟨x, l, c, zs, hcs, _, hl, hm, hz, _, hcell, hwz⟩
    · simp at hcs
      exact ⟨none, 0, 0, [], hcs, .inl ⟨rfl, rfl, rfl, rfl⟩⟩
    · simp at hcs
      exact ⟨some x, l, c, zs, hcs, .inr ⟨x, rfl, hl, hm, by simpa using hz, hcell, hwz⟩⟩
  obtain ⟨A, len, cap, zs, rfl, hw⟩ := this
  obtain ⟨l, rfl, hr, hm, hw, hc⟩ := ReadsInt.ofRowC hw
  exact ⟨l, A, cap, rfl, Kd.C_of_reads (d := (0 : Int)) (h1 := fun _ => rfl) hr, hc, hm, hw⟩
theorem dyadic_of {t e : TypeId} {f0 f1 g0 g1 : Field} {v : Value} {d : DataW H} {p : List MemPlace} (hs : P.underlying t = some (.struct #[f0, f1])) (hs2 : P.underlying f0.type = some (.struct #[g0, g1]))
    (hC : P.cellsOf t = 3) (hC2 : P.cellsOf f0.type = 2) (o0 : f0.offset = 0) (o1 : f1.offset = 2) (c1 : P.cellsOf f1.type = 1) (hone : oneCellFields P #[g0, g1] = true)
    (h0 : P.underlying g0.type = some (.int .i64)) (h1 : P.underlying g1.type = some (.slice e)) (he : P.underlying e = some (.int .i64)) (hc : P.cellsOf e = 1) (hx : P.underlying f1.type = some (.int .i64))
    (hv : Value.okWide P w .any 0 t v) (h : DataW.Trod enc P w 0 (fun _ => true) true t v d p) :
    ∃ s u l x, v = .agg #[.int .i64 s, u, .int .i64 x] ∧ (Lit.int .i64 s).wf = true ∧ (Lit.int .i64 x).wf = true ∧ Row .i64 w u l := by
  obtain ⟨cs, rfl, hsz⟩ := okWide_struct hs hv
  obtain ⟨b0, b1, b2, rfl⟩ := array3 (hsz.trans hC)
  obtain ⟨fuel, hf⟩ := h
  obtain ⟨y0, y1, n, _, _, t0, t1⟩ := trod_struct2 hs hf
  rw [o0, hC2] at t0
  rw [o1, c1] at t1
  simp [Value.cells] at t0 t1
  obtain ⟨z0, z1, m, _, _, q0, q1⟩ := trod_struct2 hs2 t0
  obtain ⟨p0, k0⟩ := hone_of hone 0 g0 rfl
  obtain ⟨p1, k1⟩ := hone_of hone 1 g1 rfl
  rw [p0, k0] at q0
  rw [p1, k1] at q1
  simp at q0 q1
  obtain ⟨s, hs0, _, hw⟩ := DataW.trod_int h0 q0
  obtain ⟨l, hl⟩ := row_of h1 he hc q1
  obtain ⟨x, hx0, _, hw2⟩ := DataW.trod_int hx t1
  simp at hs0 hx0
  subst hs0
  subst hx0
  exact ⟨s, b1, l, x, rfl, hw, hw2, hl⟩
theorem lt_of {t : TypeId} {v : Value} {d : DataW H} {ps : List MemPlace} {b : Nat} {sp : Nat → Bool} {hl : Bool} (h : DataW.Trod enc P w b sp hl t v d ps) : ∀ x ∈ ps, x.block < w.heap.size := by
  obtain ⟨m, hm⟩ := h
  exact DataW.trod_lt m _ _ _ hm
end
end Go.Proofs.Ytfinbmnjfnajiaa.Rk
end
