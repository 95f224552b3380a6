/- Lemmas of the claim: Ma, Mb, Mc. -/
import Derived.Test.YthanlckjfghnkaaProg
import Derived.WalkKit
import Derived.WalkSpells
import Derived.WalkLawsBesides
import Derived.KernelRfl
import Derived.Lib.Hide
import Derived.Handy
import Derived.StillTailTactics
import Derived.Deep.QuietTactic
import Derived.BigQuiet
import Derived.Test.YthanlckjfghnkaaQParseWd
import Derived.Test.YthanlckjfghnkaaQParseWa
import Derived.Test.YthanlckjfghnkaaQParseWf
import Derived.Outline
section
set_option linter.unusedVariables false
set_option linter.unusedSimpArgs false
namespace Go.Proofs.Ythanlckjfghnkaa.Ma
open Go.RowKit Go.Proofs.YthanlckjfghnkaaW.PrintWords Dg
def Mg (w : World) (A : Option Addr) (c : Nat) (xs : List Int) : Prop := (Kd.int .u32).C w A xs.length xs ∧ xs.length ≤ c
def Blk (w : World) (p : Nat) : Prop := ∃ b A n c, w.heap[p]? = some (.cells #[.bool b, .slice A n c] 57 (0, 0))
def Z (w : World) (p : Nat) (z : Int) : Prop :=
  ∃ A c, w.heap[p]? = some (.cells #[.bool (decide (z < 0)), .slice A (D z.natAbs).length c] 57 (0, 0)) ∧ Mg w A c (D z.natAbs)
theorem Z.blk {w : World} {p : Nat} {z : Int} (h : Z w p z) : Blk w p := by
  obtain ⟨A, c, hb, _⟩ := h
  exact ⟨_, _, _, _, hb⟩
theorem Blk.lt {w : World} {p : Nat} (h : Blk w p) : p < w.heap.size := by
  obtain ⟨b, A, n, c, hb⟩ := h
  exact (Array.getElem?_eq_some_iff.1 hb).1
theorem Z.lt {w : World} {p : Nat} {z : Int} (h : Z w p z) : p < w.heap.size := h.blk.lt
theorem Mg.kept {w w1 : World} {A : Option Addr} {c : Nat} {xs : List Int} (h : Mg w A c xs) (hk : ∀ a v, w.cell? a = some (.int .u32 v) → w1.cell? a = w.cell? a) : Mg w1 A c xs := by
  refine ⟨?_, h.2⟩
  obtain ⟨h1, h2, h3⟩ := h.1
  refine ⟨h1, h2, fun hn => ?_⟩
  obtain ⟨ad, hA, hc⟩ := h3 hn
  refine ⟨ad, hA, fun j p hp => ?_⟩
  obtain ⟨cs, hs, hR, hcell⟩ := hc j p hp
  have hR' : cs = [.int .u32 p] := hR
  subst hR'
  refine ⟨_, hs, rfl, fun i u hu => ?_⟩
  have hi : i = 0 := by
    have := (List.getElem?_eq_some_iff.1 hu).1
    simp at this
    exact this
  subst hi
  have h4 := hcell 0 _ rfl
  simp at hu
  subst hu
  rw [hk _ _ h4]
  exact h4
theorem Mg.grown {w w1 : World} {A : Option Addr} {c q : Nat} {xs : List Int} (h : Mg w A c xs) (hg : w.grownBy w1 (some q)) (hq : Blk w q) : Mg w1 A c xs := by
  refine h.kept fun a v hv => ?_
  have hlt := World.block_lt_of_cell? w a hv
  refine World.cell?_of_block (hg.block _ hlt ?_)
  intro e
  simp at e
  obtain ⟨b, B, n, d, hb⟩ := hq
  rw [← e] at hb
  simp only [World.cell?, hb] at hv
  split at hv
  · cases hv
  · match hoff : a.off, hv with
    | 0, hv => simp at hv
    | 1, hv => simp at hv
    | n + 2, hv => simp at hv
theorem Mg.below {w w1 : World} {A : Option Addr} {c : Nat} {xs : List Int} (h : Mg w A c xs) (hb : Below w.heap.size w w1) : Mg w1 A c xs :=
  ⟨Kd.C_below h.1 hb, h.2⟩
theorem Mg.of_V {w : World} {e base : Nat} {ok : Nat → Prop} {v : Value} {r : List Int} (h : Kd.V (Kd.int .u32) e w base ok v r) : ∃ A c, v = .slice A r.length c ∧ Mg w A c r := by
  obtain ⟨A, c, hv, hl, hf⟩ := h
  exact ⟨A, c, hv, Kd.F_now hf, hl⟩
theorem Mg.to_V {w : World} {A : Option Addr} {c e base : Nat} {xs : List Int} (h : Mg w A c xs) : Kd.V (Kd.int .u32) e w base (fun k => k < w.heap.size) (.slice A xs.length c) xs :=
  Kd.V_mk h.2 (Kd.C_F (Kd.heap_int _) h.1)
theorem Mg.nil (w : World) : Mg w none 0 [] := ⟨Kd.C_nil _ _, Nat.le_refl _⟩
theorem Blk.grown {w w1 : World} {p q : Nat} (h : Blk w p) (hg : w.grownBy w1 (some q)) (hne : p ≠ q) : Blk w1 p := by
  obtain ⟨b, A, n, c, hb⟩ := h
  exact ⟨b, A, n, c, (hg.block p (Array.getElem?_eq_some_iff.1 hb).1 (by simpa using hne)).trans hb⟩
theorem Blk.below {w w1 : World} {p : Nat} (h : Blk w p) (hb : Below w.heap.size w w1) : Blk w1 p := by
  obtain ⟨b, A, n, c, h1⟩ := h
  exact ⟨b, A, n, c, (hb.block p (Array.getElem?_eq_some_iff.1 h1).1).trans h1⟩
theorem Z.grown {w w1 : World} {p q : Nat} {z : Int} (h : Z w p z) (hg : w.grownBy w1 (some q)) (hq : Blk w q) (hne : p ≠ q) : Z w1 p z := by
  obtain ⟨A, c, hb, hm⟩ := h
  exact ⟨A, c, (hg.block p (Array.getElem?_eq_some_iff.1 hb).1 (by simpa using hne)).trans hb, hm.grown hg hq⟩
theorem Z.below {w w1 : World} {p : Nat} {z : Int} (h : Z w p z) (hb : Below w.heap.size w w1) : Z w1 p z := by
  obtain ⟨A, c, h1, hm⟩ := h
  exact ⟨A, c, (hb.block p (Array.getElem?_eq_some_iff.1 h1).1).trans h1, hm.below hb⟩
theorem grown_trans {w w1 w2 : World} {r : Option Nat} (h : w.grownBy w1 r) (k : w1.grownBy w2 r) : w.grownBy w2 r :=
  ⟨k.os.trans h.os, k.tape.trans h.tape, k.output.trans h.output, Nat.le_trans h.size k.size, fun i hi hne => (k.block i (Nat.lt_of_lt_of_le hi h.size) hne).trans (h.block i hi hne)⟩
theorem grown_below {w w1 : World} (h : Below w.heap.size w w1) (r : Option Nat) : w.grownBy w1 r := ⟨h.os, h.tape, h.output, h.size, fun i hi _ => h.block i hi⟩
theorem below_grown {w w1 w2 : World} {q : Nat} (h : Below w.heap.size w w1) (k : w1.grownBy w2 (some q)) (hq : w.heap.size ≤ q) : Below w.heap.size w w2 :=
  h.trans ⟨k.os, k.tape, k.output, k.size, fun i hi => k.block i (Nat.lt_of_lt_of_le hi h.size) (by simp; omega)⟩
theorem below_then {w w1 w2 : World} (h : Below w.heap.size w w1) (k : Below w1.heap.size w1 w2) : Below w.heap.size w w2 := h.trans (k.mono h.size)
theorem below_alloc (w : World) (o : Obj) : Below w.heap.size w (w.alloc o) := (Below.refl _ _).alloc (Nat.le_refl _) o
theorem Z.new (w : World) : Z (w.alloc (.cells #[.bool false, .slice none 0 0] 57)) w.heap.size 0 :=
  ⟨none, 0, by rw [show D ((0 : Int).natAbs) = [] from D_zero]; exact heap_alloc_new w _, by rw [show D ((0 : Int).natAbs) = [] from D_zero]; exact Mg.nil _⟩
end Go.Proofs.Ythanlckjfghnkaa.Ma
end
section
set_option linter.unusedVariables false
set_option linter.unusedSimpArgs false
namespace Go.Proofs.Ythanlckjfghnkaa.Mb
open Go.RowKit Go.Proofs.YthanlckjfghnkaaW.PrintWords Go.Proofs.Ythanlckjfghnkaa.PW Go.Proofs.Ythanlckjfghnkaa.Pc Go.Proofs.Ythanlckjfghnkaa.Ma Dg
def GivesMg (w : World) (n : Nat) (e : Ending) (w' : World) : Prop :=
  ∃ A c, e = .returned (.slice A (D n).length c) ∧ Mg w' A c (D n) ∧ Below w.heap.size w w'
theorem cTrim {w : World} {A : Option Addr} {c : Nat} {xs : List Int} (h : Mg w A c xs) (hd : Dig 4294967296 xs) (hl : xs.length ≤ 1099511627776) :
    Calls Try.prog 75 #[.slice A xs.length c] w (GivesMg w (val 4294967296 xs).toNat) := by
  obtain ⟨k, hk⟩ := (Pm.trim _ xs rfl hd hl).rounds
  refine (impl_magTrim.calls k _ A c xs _ w (h.to_V (base := w.heap.size)) hk).mono ?_
  rintro e w' ⟨v, rfl, hv, hb⟩
  obtain ⟨B, d, rfl, hm⟩ := Mg.of_V hv
  exact ⟨B, d, rfl, hm, hb⟩
def Puts (w : World) (p : Nat) (z : Int) (e : Ending) (w' : World) : Prop :=
  e = .returned (.pointer (some ⟨p, 0, none⟩)) ∧ Z w' p z ∧ w.grownBy w' (some p)
theorem puts_of {w w1 : World} {p : Nat} {b : Bool} {B A : Option Addr} {n c d : Nat} {z : Int} {neg : Bool} (hp : w.heap[p]? = some (.cells #[.bool b, .slice B n d] 57 (0, 0))) (hb : Below w.heap.size w w1)
    (hm : Mg w1 A c (D z.natAbs)) (hn : neg = decide (z < 0)) :
    Puts w p z (.returned (.pointer (some ⟨p, 0, none⟩))) ((w1.setCell ⟨p, 1, none⟩ (.slice A (D z.natAbs).length c)).setCell ⟨p, 0, none⟩ (.bool neg)) := by
  have hlt : p < w.heap.size := (Array.getElem?_eq_some_iff.1 hp).1
  have hp1 : w1.heap[p]? = some (.cells #[.bool b, .slice B n d] 57 (0, 0)) := (hb.block p hlt).trans hp
  have s1 := blk_set hp1 1 (.slice A (D z.natAbs).length c)
  have s2 := blk_set s1 0 (.bool neg)
  have g1 : w1.grownBy ((w1.setCell ⟨p, 1, none⟩ (.slice A (D z.natAbs).length c)).setCell ⟨p, 0, none⟩ (.bool neg)) (some p) := by
    refine ⟨rfl, rfl, rfl, by simp [World.setCell], fun k hk hne => ?_⟩
    have hne' : k ≠ p := fun e => hne (by rw [e])
    rw [Below.heap_setCell _ ⟨p, 0, none⟩ _ k hne', Below.heap_setCell _ ⟨p, 1, none⟩ _ k hne']
  refine ⟨rfl, ⟨A, c, ?_, hm.grown g1 ⟨b, B, n, d, hp1⟩⟩, grown_trans (grown_below hb _) g1⟩
  rw [s2, hn]
  rfl
set_option maxHeartbeats 400000 in
theorem put {w : World} {p : Nat} {neg : Bool} {A : Option Addr} {c : Nat} {xs : List Int} (hp : Blk w p) (hm : Mg w A c xs) (hd : Dig 4294967296 xs) (hl : xs.length ≤ 1099511627776) :
    Calls Try.prog 62 #[.pointer (some ⟨p, 0, none⟩), .bool neg, .slice A xs.length c] w (Puts w p (if neg = true then -(val 4294967296 xs) else val 4294967296 xs)) := by
  have hT := cTrim hm hd hl
  have hv0 := val_nonneg hd
  obtain ⟨b, B, n, d, hb⟩ := hp
  have hlt : p < w.heap.size := (Array.getElem?_eq_some_iff.1 hb).1
  have HB := Lib.hid hb
  clear hb hm hd hl
  generalize hx : val 4294967296 xs = x at *
  obtain ⟨m, rfl⟩ := Int.eq_ofNat_of_zero_le hv0
  rw [Int.toNat_natCast] at hT
  clear hx hv0
  have HT := Lib.hid hT
  clear hT
  have hE : ∀ w1 : World, Below w.heap.size w w1 → (w1.cell? ⟨p, 0, none⟩ = some (.bool b) ∧ w1.cell? ⟨p, 1, none⟩ = some (.slice B n d) ∧ w1.frozen? ⟨p, 0, none⟩ = false ∧ w1.frozen? ⟨p, 1, none⟩ = false) := fun w1 h => by
    have h1 := (h.block p hlt).trans HB.out
    exact ⟨blk_cell h1 0, blk_cell h1 1, blk_frozen h1 0, blk_frozen h1 1⟩
  have HE := Lib.hid hE
  clear hE
  have hgoal : ∀ (nb : Bool) (w1 : World) (A' : Option Addr) (c' : Nat), Below w.heap.size w w1 → Mg w1 A' c' (D m) → nb = decide ((if neg = true then -(m : Int) else (m : Int)) < 0) → Puts w p (if neg = true then -(m : Int) else (m : Int)) (.returned (.pointer (some ⟨p, 0, none⟩))) ((w1.setCell ⟨p, 1, none⟩ (.slice A' (D m).length c')).setCell ⟨p, 0, none⟩ (.bool nb)) := by
    intro nb w1 A' c' hbl hmg hnb
    have e : (if neg = true then -(m : Int) else (m : Int)).natAbs = m := by split <;> omega
    have := puts_of (z := if neg = true then -(m : Int) else (m : Int)) (A := A') (c := c') HB.out hbl (by rw [e]; exact hmg) hnb
    rw [e] at this
    exact this
  have HG := Lib.hid hgoal
  clear hgoal
  cases neg with
  | false =>
    go_enter Try.func62, Try.ntmps62
    go_wp2_with fail
    refine HT.out.mono ?_
    rintro e w1 ⟨A', c', rfl, hmg, hbl⟩
    obtain ⟨k0, k1, f0, f1⟩ := HE.out w1 hbl
    have h2 := Lib.hid (HG.out false w1 A' c' hbl hmg (by simp))
    clear hmg
    have HBL := Lib.hid hbl
    clear hbl
    go_wp2
    go_ret
    exact h2.out
  | true =>
    by_cases h0 : m = 0
    · subst h0
      have hlen : (D 0).length = 0 := by rw [D_zero]; rfl
      go_enter Try.func62, Try.ntmps62
      go_wp2_with fail
      refine HT.out.mono ?_
      rintro e w1 ⟨A', c', rfl, hmg, hbl⟩
      obtain ⟨k0, k1, f0, f1⟩ := HE.out w1 hbl
      have h3 := HG.out false w1 A' c' hbl hmg (by simp)
      rw [hlen] at h3
      have h2 := Lib.hid h3
      clear hmg h3
      have HBL := Lib.hid hbl
      clear hbl
      go_wp2
      go_ret
      exact h2.out
    · have hlen : 0 < (D m).length := D_pos h0
      have HL := Lib.hid hlen
      go_enter Try.func62, Try.ntmps62
      go_wp2_with fail
      refine HT.out.mono ?_
      rintro e w1 ⟨A', c', rfl, hmg, hbl⟩
      obtain ⟨k0, k1, f0, f1⟩ := HE.out w1 hbl
      have h2 := Lib.hid (HG.out true w1 A' c' hbl hmg (by simp; omega))
      clear hmg
      have HBL := Lib.hid hbl
      clear hbl
      go_wp2
      go_ret
      exact h2.out
end Go.Proofs.Ythanlckjfghnkaa.Mb
end
section
set_option linter.unusedVariables false
set_option linter.unusedSimpArgs false
namespace Go.Proofs.Ythanlckjfghnkaa.Mc
open Go.RowKit Go.Proofs.YthanlckjfghnkaaW.PrintWords Go.Proofs.Ythanlckjfghnkaa.PW Go.Proofs.Ythanlckjfghnkaa.Pc Go.Proofs.Ythanlckjfghnkaa.Ma Go.Proofs.Ythanlckjfghnkaa.Mb Dg
theorem Mg.row {w : World} {g : Nat} {cs : Array Value} {t : TypeId} {xs : List Int} (h : w.heap[g]? = some (.cells cs t (0, 0))) (hx : cs.toList = xs.map (Value.int .u32)) (hl : xs.length ≤ 9223372036854775807) : Mg w (some ⟨g, 0, none⟩) xs.length xs := by
  refine ⟨⟨rfl, hl, fun _ => ⟨_, rfl, fun j p hp => ⟨[.int .u32 p], rfl, rfl, fun i u hu => ?_⟩⟩⟩, Nat.le_refl _⟩
  have hi : i = 0 := by
    have := (List.getElem?_eq_some_iff.1 hu).1
    simp at this
    exact this
  subst hi
  simp at hu
  subst hu
  have hsz : (Kd.int .u32).sz = 1 := rfl
  rw [hsz, Nat.mul_one, Nat.add_zero, add_plain, blk_cell h, ← Array.getElem?_toList, hx, List.getElem?_map, hp]
  rfl
theorem Puts.below {w w1 : World} {p : Nat} {z : Int} {e : Ending} {w2 : World} (hb : Below w.heap.size w w1) (h : Puts w1 p z e w2) : Puts w p z e w2 :=
  ⟨h.1, h.2.1, grown_trans (grown_below hb _) h.2.2⟩
theorem put_two {w : World} {p : Nat} {neg : Bool} {a b n : Int} (hp : Blk w p) (a0 : 0 ≤ a) (a1 : a < 4294967296) (b0 : 0 ≤ b) (b1 : b < 4294967296) (hn : (if neg = true then -(a + 4294967296 * b) else a + 4294967296 * b) = n) :
    Calls Try.prog 62 #[.pointer (some ⟨p, 0, none⟩), .bool neg, .slice (some ⟨w.heap.size, 0, none⟩) 2 2] (w.alloc (.cells #[.int .u32 a, .int .u32 b] 94)) (Puts w p n) := by
  have hm : Mg (w.alloc (.cells #[.int .u32 a, .int .u32 b] 94)) (some ⟨w.heap.size, 0, none⟩) 2 [a, b] := Mg.row (heap_alloc_new w _) rfl (by simp)
  have hd : Dig 4294967296 [a, b] := Dig.cons a0 a1 (Dig.cons b0 b1 Dig.nil)
  refine (put (neg := neg) (hp.below (below_alloc w _)) hm hd (by simp)).mono fun e w' h => ?_
  have hv : val 4294967296 [a, b] = a + 4294967296 * b := by simp only [val_cons, val_nil]; omega
  rw [hv, hn] at h
  exact Puts.below (below_alloc w _) h
set_option maxHeartbeats 400000 in
theorem setInt64 {w : World} {p : Nat} {n : Int} (hp : Blk w p) (h1 : -9223372036854775808 ≤ n) (h2 : n ≤ 9223372036854775807) :
    Calls Try.prog 89 #[.pointer (some ⟨p, 0, none⟩), .int .i64 n] w (Puts w p n) := by
  by_cases hn : n < 0
  · have e1 : IntKind.u64.wrap (-(IntKind.u64.wrap n)) = -n := by rw [IntKind.wrap_u64, IntKind.wrap_u64]; omega
    have E1 := Lib.hid e1
    clear e1
    go_enter Try.func89, Try.ntmps89
    go_wp2_with fail
    rw [E1.out]
    refine (put_two (n := n) hp (by omega) (by omega) (by omega) (by omega) (by simp; omega)).mono ?_
    rintro e w1 ⟨rfl, hz, hg⟩
    have h3 : Puts w p n _ w1 := ⟨rfl, hz, hg⟩
    have H3 := Lib.hid h3
    clear h3 hz hg
    go_wp2
    go_ret
    exact H3.out
  · go_enter Try.func89, Try.ntmps89
    go_wp2_with fail
    refine (put_two (n := n) hp (by omega) (by omega) (by omega) (by omega) (by simp; omega)).mono ?_
    rintro e w1 ⟨rfl, hz, hg⟩
    have h3 : Puts w p n _ w1 := ⟨rfl, hz, hg⟩
    have H3 := Lib.hid h3
    clear h3 hz hg
    go_wp2
    go_ret
    exact H3.out
def News (w : World) (z : Int) (e : Ending) (w' : World) : Prop :=
  ∃ g, e = .returned (.pointer (some ⟨g, 0, none⟩)) ∧ Z w' g z ∧ w.heap.size ≤ g ∧ Below w.heap.size w w'
theorem Puts.news {w : World} {z : Int} {e : Ending} {w' : World} {o : Obj} (h : Puts (w.alloc o) w.heap.size z e w') : News w z e w' :=
  ⟨w.heap.size, h.1, h.2.1, Nat.le_refl _, below_grown (below_alloc w o) h.2.2 (Nat.le_refl _)⟩
set_option maxHeartbeats 400000 in
theorem newInt {w : World} {n : Int} (h1 : -9223372036854775808 ≤ n) (h2 : n ≤ 9223372036854775807) :
    Calls Try.prog 63 #[.int .i64 n] w (News w n) := by
  go_enter Try.func63, Try.ntmps63
  go_wp2_with fail
  refine (setInt64 (n := n) (Z.new w).blk h1 h2).mono ?_
  intro e w1 hp
  have hN := Lib.hid (Puts.news hp)
  obtain ⟨rfl, hz, hg⟩ := hp
  clear hz hg
  go_wp2
  go_ret
  exact hN.out
end Go.Proofs.Ythanlckjfghnkaa.Mc
end
