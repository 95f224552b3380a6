/- The laws' own memory: boxes of whole numbers and rows of their own, one made behind the other. -/
import Derived.Test.YtdjdnllnhonjkaaKa
import Derived.Test.YtdjdnllnhonjkaaWMore
namespace Go.Proofs.Ytdjdnllnhonjkaa.Lm
open Go.RowKit Go.Proofs.YtdjdnllnhonjkaaW.PrintWords Go.Proofs.YtdjdnllnhonjkaaW.PrintLast Go.Proofs.YtdjdnllnhonjkaaW.PrintMore Go.Proofs.Ytdjdnllnhonjkaa.Pc
set_option linter.unusedVariables false
set_option linter.unusedSimpArgs false

/-- A box (block, type, sign, limbs), or a row of one's own (value, limbs, the blocks from lo to hi where it may lie). -/
inductive Ent
  | box (b t : Nat) (s : Int) (u : Value)
  | row (u : Value) (l : List Int) (lo hi : Nat)
def Ent.lo : Ent → Nat
  | .box b _ _ _ => b
  | .row _ _ lo _ => lo
def Ent.hi : Ent → Nat
  | .box b _ _ _ => b + 1
  | .row _ _ _ hi => hi
def Ent.ok (w W : World) : Ent → Prop
  | .box b t s u => W.heap[b]? = some (.cells #[.int .i64 s, u] t (0, 0))
  | .row u l lo hi => Kd.R (Kd.int .i64) 2 W w.heap.size (fun k => lo ≤ k ∧ k < hi) u l

/-- What stands in memory. -/
def Mem (w W : World) (es : List Ent) : Prop := Below w.heap.size w W ∧ (∀ e ∈ es, e.ok w W ∧ e.hi ≤ W.heap.size) ∧ es.Pairwise (fun a b => b.hi ≤ a.lo ∨ a.hi ≤ b.lo)

section
variable {w W W' : World} {es es' : List Ent}

theorem Ent.ok_step {e : Ent} (h : e.ok w W) (hh : e.hi ≤ W.heap.size) (hk : ∀ k, e.lo ≤ k → k < e.hi → W'.heap[k]? = W.heap[k]?) : e.ok w W' := by
  cases e with
  | box b t s u => exact (hk b (Nat.le_refl _) (Nat.lt_succ_self _)).trans h
  | row u l lo hi => exact Kd.R_step h (fun k hk1 _ => hk k hk1.1 hk1.2)
theorem Mem.nil (w : World) : Mem w w [] := ⟨Below.refl _ _, fun e he => by simp at he, List.Pairwise.nil⟩
theorem Mem.below (h : Mem w W es) (hb : Below W.heap.size W W') : Mem w W' es :=
  ⟨h.1.trans (hb.mono h.1.size), fun e he => ⟨Ent.ok_step (h.2.1 e he).1 (h.2.1 e he).2 (fun k _ hk => hb.block k (Nat.lt_of_lt_of_le hk (h.2.1 e he).2)), Nat.le_trans (h.2.1 e he).2 hb.size⟩, h.2.2⟩
theorem Mem.drew (h : Mem w W es) : Mem w W.drew es := h.below (below_drew (Below.refl _ _))
theorem Mem.drewN (h : Mem w W es) (n : Nat) : Mem w (W.drewN n) es := h.below (pw_below_drewN (Below.refl _ _) n)
theorem Mem.cons {e : Ent} (h : Mem w W es) (hb : Below W.heap.size W W') (he : e.ok w W') (h1 : W.heap.size ≤ e.lo) (h2 : e.hi ≤ W'.heap.size) : Mem w W' (e :: es) := by
  obtain ⟨a, b, c⟩ := h.below hb
  refine ⟨a, fun x hx => ?_, List.Pairwise.cons (fun x hx => .inl (Nat.le_trans (h.2.1 x hx).2 h1)) c⟩
  rcases List.mem_cons.1 hx with rfl | hx
  · exact ⟨he, h2⟩
  · exact b x hx
theorem Mem.box (h : Mem w W es) (t : Nat) (s : Int) (u : Value) : Mem w (W.alloc (.cells #[.int .i64 s, u] t)) (.box W.heap.size t s u :: es) :=
  h.cons ((Below.refl _ _).alloc (Nat.le_refl _) _) (heap_alloc_new W _) (Nat.le_refl _) (by simp [Ent.hi])
/-- A row is handed back by a call. -/
theorem Mem.row {u : Value} {l : List Int} (h : Mem w W es) (hR : Kd.R (Kd.int .i64) 2 W' W.heap.size (fun _ => True) u l) (hb : Below W.heap.size W W') : Mem w W' (.row u l W.heap.size W'.heap.size :: es) :=
  h.cons hb (Kd.R_mono (Kd.R_lower (Kd.R_bound hR) h.1.size) (fun k hk => ⟨hk.2.1, hk.2.2.1⟩)) (Nat.le_refl _) (Nat.le_refl _)
theorem Mem.tail {e : Ent} (h : Mem w W (e :: es)) : Mem w W es := ⟨h.1, fun x hx => h.2.1 x (List.mem_cons_of_mem _ hx), h.2.2.of_cons⟩
theorem Mem.cells (h : Mem w W es) {b t : Nat} {s : Int} {u : Value} (hx : .box b t s u ∈ es) : W.cell? ⟨b, 0, none⟩ = some (.int .i64 s) ∧ W.cell? ⟨b, 1, none⟩ = some u ∧ b < W.heap.size :=
  ⟨blk_cell (h.2.1 _ hx).1 0, blk_cell (h.2.1 _ hx).1 1, (h.2.1 _ hx).2⟩
theorem Mem.reads (h : Mem w W es) {A : Option Addr} {c n : Nat} {l : List Int} {lo hi : Nat} (hr : .row (.slice A n c) l lo hi ∈ es) : Kd.C (Kd.int .i64) W A l.length l ∧ l.length ≤ c := by
  obtain ⟨h1, h2, h3⟩ := Kd.R_reads' (h.2.1 _ hr).1
  exact ⟨h3, Nat.le_trans (Nat.le_of_eq h1.symm) h2⟩
theorem Mem.own (h : Mem w W es) {u : Value} {l : List Int} {lo hi : Nat} (hr : .row u l lo hi ∈ es) : Kd.R (Kd.int .i64) 2 W w.heap.size (fun k => lo ≤ k ∧ k < hi) u l := (h.2.1 _ hr).1
theorem Mem.list (h : Mem w W es) : ∃ ES, Mem w W ES ∧ ES = es := ⟨es, h, rfl⟩
theorem Mem.len (h : Mem w W es) {A : Option Addr} {c n : Nat} {l : List Int} {lo hi : Nat} (hr : .row (.slice A n c) l lo hi ∈ es) : n = l.length := (Kd.R_reads' (h.2.1 _ hr).1).1
/-- A row is written in its place. -/
theorem Mem.mark {bf ct : List Ent} {u : Value} {l l' : List Int} {lo hi : Nat} (h : Mem w W (bf ++ .row u l lo hi :: ct)) (hR : Kd.R (Kd.int .i64) 2 W' w.heap.size (fun k => (lo ≤ k ∧ k < hi) ∨ W.heap.size ≤ k) u l') (hB : Below w.heap.size w W') (hk : Kept W W' (fun k => lo ≤ k ∧ k < hi)) :
    Mem w W' (bf ++ .row u l' lo hi :: ct) := by
  obtain ⟨p1, p2, p3⟩ := List.pairwise_append.1 h.2.2
  obtain ⟨p4, p5⟩ := List.pairwise_cons.1 p2
  have hme : Ent.row u l lo hi ∈ bf ++ .row u l lo hi :: ct := by simp
  refine ⟨hB, fun x hx => ?_, List.pairwise_append.2 ⟨p1, List.pairwise_cons.2 ⟨p4, p5⟩, fun a ha b hb => ?_⟩⟩
  · rcases List.mem_append.1 hx with hx | hx
    · have hm : x ∈ bf ++ .row u l lo hi :: ct := List.mem_append_left _ hx
      refine ⟨Ent.ok_step (h.2.1 x hm).1 (h.2.1 x hm).2 (fun k h1 h2 => hk.2 k (Nat.lt_of_lt_of_le h2 (h.2.1 x hm).2) ?_), Nat.le_trans (h.2.1 x hm).2 hk.1⟩
      have h3 : hi ≤ x.lo ∨ x.hi ≤ lo := p3 x hx _ List.mem_cons_self
      omega
    · rcases List.mem_cons.1 hx with rfl | hx
      · obtain ⟨ho, hl⟩ := h.2.1 _ hme
        exact ⟨⟨ho.1, hR.2.imp_ (fun _ _ hp => hp)⟩, Nat.le_trans hl hk.1⟩
      · have hm : x ∈ bf ++ .row u l lo hi :: ct := List.mem_append_right _ (List.mem_cons_of_mem _ hx)
        refine ⟨Ent.ok_step (h.2.1 x hm).1 (h.2.1 x hm).2 (fun k h1 h2 => hk.2 k (Nat.lt_of_lt_of_le h2 (h.2.1 x hm).2) ?_), Nat.le_trans (h.2.1 x hm).2 hk.1⟩
        have h3 : x.hi ≤ lo ∨ hi ≤ x.lo := p4 x hx
        omega
  · rcases List.mem_cons.1 hb with rfl | hb
    · exact p3 a ha (.row u l lo hi) List.mem_cons_self
    · exact p3 a ha b (List.mem_cons_of_mem _ hb)
theorem Mem.swap {a b : Ent} (h : Mem w W (a :: b :: es)) : Mem w W (b :: a :: es) := by
  refine ⟨h.1, fun x hx => h.2.1 x ?_, ?_⟩
  · simp only [List.mem_cons] at hx ⊢
    rcases hx with h | h | h
    · exact .inr (.inl h)
    · exact .inl h
    · exact .inr (.inr h)
  · obtain ⟨p1, p2⟩ := List.pairwise_cons.1 h.2.2
    obtain ⟨p3, p4⟩ := List.pairwise_cons.1 p2
    refine List.pairwise_cons.2 ⟨fun x hx => ?_, List.pairwise_cons.2 ⟨fun x hx => p1 x (List.mem_cons_of_mem _ hx), p4⟩⟩
    rcases List.mem_cons.1 hx with rfl | hx
    · rcases p1 b List.mem_cons_self with h | h
      · exact .inr h
      · exact .inl h
    · exact p3 x hx
/-- The first but one falls away. -/
theorem Mem.drop2 {a b : Ent} (h : Mem w W (a :: b :: es)) : Mem w W (a :: es) := h.swap.tail
/-- Fewer. -/
theorem Mem.sub (h : Mem w W es) (hs : es'.Sublist es) : Mem w W es' := ⟨h.1, fun e he => h.2.1 e (hs.subset he), h.2.2.sublist hs⟩
/-- A box is filled. -/
theorem Mem.fill {bf ct : List Ent} {b t : Nat} {s s' : Int} {u u' : Value} (h : Mem w W (bf ++ .box b t s u :: ct)) (hw : w.heap.size ≤ b) : Mem w ((W.setCell ⟨b, 0, none⟩ (.int .i64 s')).setCell ⟨b, 1, none⟩ u') (bf ++ .box b t s' u' :: ct) := by
  have hme : Ent.box b t s u ∈ bf ++ .box b t s u :: ct := by simp
  have hb := (h.2.1 _ hme).1
  obtain ⟨p1, p2, p3⟩ := List.pairwise_append.1 h.2.2
  obtain ⟨p4, p5⟩ := List.pairwise_cons.1 p2
  have hs : ((W.setCell ⟨b, 0, none⟩ (.int .i64 s')).setCell ⟨b, 1, none⟩ u').heap.size = W.heap.size := by simp [World.setCell]
  have hx2 : ∀ x : Ent, x ∈ bf ++ .box b t s u :: ct → (x.hi ≤ b ∨ b + 1 ≤ x.lo) → Ent.ok w ((W.setCell ⟨b, 0, none⟩ (.int .i64 s')).setCell ⟨b, 1, none⟩ u') x ∧ x.hi ≤ W.heap.size := fun x hx h3 => by
    obtain ⟨ho, hl⟩ := h.2.1 x hx
    refine ⟨Ent.ok_step ho hl (fun k h1 h2 => ?_), hl⟩
    rw [Below.heap_setCell _ _ _ _ (show k ≠ b by omega), Below.heap_setCell _ _ _ _ (show k ≠ b by omega)]
  refine ⟨(h.1.setCell (p := ⟨b, 0, none⟩) hw _).setCell (p := ⟨b, 1, none⟩) hw _, fun x hx => ?_, List.pairwise_append.2 ⟨p1, List.pairwise_cons.2 ⟨p4, p5⟩, fun a ha c hc => ?_⟩⟩
  · rw [hs]
    rcases List.mem_append.1 hx with hx | hx
    · exact hx2 x (List.mem_append_left _ hx) (by have h3 : b + 1 ≤ x.lo ∨ x.hi ≤ b := p3 x hx _ List.mem_cons_self; omega)
    · rcases List.mem_cons.1 hx with rfl | hx
      · exact ⟨blk_set (blk_set hb 0 (.int .i64 s')) 1 u', (h.2.1 _ hme).2⟩
      · exact hx2 x (List.mem_append_right _ (List.mem_cons_of_mem _ hx)) (by have h3 : x.hi ≤ b ∨ b + 1 ≤ x.lo := p4 x hx; omega)
  · rcases List.mem_cons.1 hc with rfl | hc
    · exact p3 a ha (.box b t s u) List.mem_cons_self
    · exact p3 a ha c (List.mem_cons_of_mem _ hc)
theorem Mem.lts (h : Mem w W es) {b t : Nat} {s : Int} {u : Value} (hx : .box b t s u ∈ es) : W.frozen? ⟨b, 0, none⟩ = false ∧ W.frozen? ⟨b, 1, none⟩ = false :=
  ⟨blk_frozen (h.2.1 _ hx).1 0, blk_frozen (h.2.1 _ hx).1 1⟩
end
end Go.Proofs.Ytdjdnllnhonjkaa.Lm
