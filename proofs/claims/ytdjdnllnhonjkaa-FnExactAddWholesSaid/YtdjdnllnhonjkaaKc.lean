/- Joined texts (Kc): Ma, Mb, Mc, Md, Me, Mf, Mg, Mh. -/
import Derived.Test.YtdjdnllnhonjkaaProg
import Derived.Test.YtdjdnllnhonjkaaWWords
import Derived.Test.YtdjdnllnhonjkaaWMore
import Derived.Test.YtdjdnllnhonjkaaKa
import Derived.WalkKit
import Derived.WalkSpells
import Derived.WalkLawsBesides
import Derived.KernelRfl
import Derived.Lib.Hide
import Derived.Handy
import Derived.StillTailTactics
import Derived.Deep.QuietTactic
import Derived.BigQuiet
import Derived.Test.YtdjdnllnhonjkaaKb
import Derived.Outline
import Derived.Deep.RegionHeld3
import Derived.Deep.RegionWith
import Derived.RegionTactic
import Derived.ChangeAlike
import Derived.Laws.CopyOwn
import Derived.Deep.OwnRows
section
/- Memory: a block that is an integer of the program: its sign, and a row of digits of 32 bits. What keeps it. -/
set_option linter.unusedVariables false
set_option linter.unusedSimpArgs false
namespace Go.Proofs.Ytdjdnllnhonjkaa.Ma
open Go.RowKit Go.Proofs.YtdjdnllnhonjkaaW.PrintWords Dg

/-- Digits of 32 bits that are read. -/
def Mg (w : World) (A : Option Addr) (c : Nat) (xs : List Int) : Prop := (Kd.int .u32).C w A xs.length xs ∧ xs.length ≤ c

/-- A block of the form of an integer. -/
def Blk (w : World) (p : Nat) : Prop := ∃ b A n c, w.heap[p]? = some (.cells #[.bool b, .slice A n c] 76 (0, 0))

/-- Block p is an integer and stands for z. -/
def Z (w : World) (p : Nat) (z : Int) : Prop :=
  ∃ A c, w.heap[p]? = some (.cells #[.bool (decide (z < 0)), .slice A (D z.natAbs).length c] 76 (0, 0)) ∧ Mg w A c (D z.natAbs)

theorem Z.blk {w : World} {p : Nat} {z : Int} (h : Z w p z) : Blk w p := by
  obtain ⟨A, c, hb, _⟩ := h
  exact ⟨_, _, _, _, hb⟩
theorem Blk.lt {w : World} {p : Nat} (h : Blk w p) : p < w.heap.size := by
  obtain ⟨b, A, n, c, hb⟩ := h
  exact (Array.getElem?_eq_some_iff.1 hb).1
theorem Z.lt {w : World} {p : Nat} {z : Int} (h : Z w p z) : p < w.heap.size := h.blk.lt

theorem Mg.kept {w w1 : World} {A : Option Addr} {c : Nat} {xs : List Int} (h : Mg w A c xs) (hk : ∀ a v, w.cell? a = some (.int .u32 v) → w1.cell? a = w.cell? a) : Mg w1 A c xs := by
  refine ⟨?_, h.2⟩
  obtain ⟨h1, h2, h3⟩ := h.1
  refine ⟨h1, h2, fun hn => ?_⟩
  obtain ⟨ad, hA, hc⟩ := h3 hn
  refine ⟨ad, hA, fun j p hp => ?_⟩
  obtain ⟨cs, hs, hR, hcell⟩ := hc j p hp
  have hR' : cs = [.int .u32 p] := hR
  subst hR'
  refine ⟨_, hs, rfl, fun i u hu => ?_⟩
  have hi : i = 0 := by
    have := (List.getElem?_eq_some_iff.1 hu).1
    simp at this
    exact this
  subst hi
  have h4 := hcell 0 _ rfl
  simp at hu
  subst hu
  rw [hk _ _ h4]
  exact h4

theorem Mg.grown {w w1 : World} {A : Option Addr} {c q : Nat} {xs : List Int} (h : Mg w A c xs) (hg : w.grownBy w1 (some q)) (hq : Blk w q) : Mg w1 A c xs := by
  refine h.kept fun a v hv => ?_
  have hlt := World.block_lt_of_cell? w a hv
  refine World.cell?_of_block (hg.block _ hlt ?_)
  intro e
  simp at e
  obtain ⟨b, B, n, d, hb⟩ := hq
  rw [← e] at hb
  simp only [World.cell?, hb] at hv
  split at hv
  · cases hv
  · match hoff : a.off, hv with
    | 0, hv => simp at hv
    | 1, hv => simp at hv
    | n + 2, hv => simp at hv

theorem Mg.below {w w1 : World} {A : Option Addr} {c : Nat} {xs : List Int} (h : Mg w A c xs) (hb : Below w.heap.size w w1) : Mg w1 A c xs :=
  ⟨Kd.C_below h.1 hb, h.2⟩

theorem Mg.of_V {w : World} {e base : Nat} {ok : Nat → Prop} {v : Value} {r : List Int} (h : Kd.V (Kd.int .u32) e w base ok v r) : ∃ A c, v = .slice A r.length c ∧ Mg w A c r := by
  obtain ⟨A, c, hv, hl, hf⟩ := h
  exact ⟨A, c, hv, Kd.F_now hf, hl⟩

theorem Mg.to_V {w : World} {A : Option Addr} {c e base : Nat} {xs : List Int} (h : Mg w A c xs) : Kd.V (Kd.int .u32) e w base (fun k => k < w.heap.size) (.slice A xs.length c) xs :=
  Kd.V_mk h.2 (Kd.C_F (Kd.heap_int _) h.1)

theorem Mg.nil (w : World) : Mg w none 0 [] := ⟨Kd.C_nil _ _, Nat.le_refl _⟩

theorem Blk.grown {w w1 : World} {p q : Nat} (h : Blk w p) (hg : w.grownBy w1 (some q)) (hne : p ≠ q) : Blk w1 p := by
  obtain ⟨b, A, n, c, hb⟩ := h
  exact ⟨b, A, n, c, (hg.block p (Array.getElem?_eq_some_iff.1 hb).1 (by simpa using hne)).trans hb⟩
theorem Blk.below {w w1 : World} {p : Nat} (h : Blk w p) (hb : Below w.heap.size w w1) : Blk w1 p := by
  obtain ⟨b, A, n, c, h1⟩ := h
  exact ⟨b, A, n, c, (hb.block p (Array.getElem?_eq_some_iff.1 h1).1).trans h1⟩
theorem Z.grown {w w1 : World} {p q : Nat} {z : Int} (h : Z w p z) (hg : w.grownBy w1 (some q)) (hq : Blk w q) (hne : p ≠ q) : Z w1 p z := by
  obtain ⟨A, c, hb, hm⟩ := h
  exact ⟨A, c, (hg.block p (Array.getElem?_eq_some_iff.1 hb).1 (by simpa using hne)).trans hb, hm.grown hg hq⟩
theorem Z.below {w w1 : World} {p : Nat} {z : Int} (h : Z w p z) (hb : Below w.heap.size w w1) : Z w1 p z := by
  obtain ⟨A, c, h1, hm⟩ := h
  exact ⟨A, c, (hb.block p (Array.getElem?_eq_some_iff.1 h1).1).trans h1, hm.below hb⟩

theorem grown_trans {w w1 w2 : World} {r : Option Nat} (h : w.grownBy w1 r) (k : w1.grownBy w2 r) : w.grownBy w2 r :=
  ⟨k.os.trans h.os, k.tape.trans h.tape, k.output.trans h.output, Nat.le_trans h.size k.size, fun i hi hne => (k.block i (Nat.lt_of_lt_of_le hi h.size) hne).trans (h.block i hi hne)⟩
theorem grown_below {w w1 : World} (h : Below w.heap.size w w1) (r : Option Nat) : w.grownBy w1 r := ⟨h.os, h.tape, h.output, h.size, fun i hi _ => h.block i hi⟩
/-- What was written lies in a block that was made since. -/
theorem below_grown {w w1 w2 : World} {q : Nat} (h : Below w.heap.size w w1) (k : w1.grownBy w2 (some q)) (hq : w.heap.size ≤ q) : Below w.heap.size w w2 :=
  h.trans ⟨k.os, k.tape, k.output, k.size, fun i hi => k.block i (Nat.lt_of_lt_of_le hi h.size) (by simp; omega)⟩
theorem below_then {w w1 w2 : World} (h : Below w.heap.size w w1) (k : Below w1.heap.size w1 w2) : Below w.heap.size w w2 := h.trans (k.mono h.size)

theorem below_alloc (w : World) (o : Obj) : Below w.heap.size w (w.alloc o) := (Below.refl _ _).alloc (Nat.le_refl _) o
/-- A new integer: 0. -/
theorem Z.new (w : World) : Z (w.alloc (.cells #[.bool false, .slice none 0 0] 76)) w.heap.size 0 :=
  ⟨none, 0, by rw [show D ((0 : Int).natAbs) = [] from D_zero]; exact heap_alloc_new w _, by rw [show D ((0 : Int).natAbs) = [] from D_zero]; exact Mg.nil _⟩
end Go.Proofs.Ytdjdnllnhonjkaa.Ma
end

section
/- Walks: trimming, putting, small integers. -/
set_option linter.unusedVariables false
set_option linter.unusedSimpArgs false
namespace Go.Proofs.Ytdjdnllnhonjkaa.Mb
open Go.RowKit Go.Proofs.YtdjdnllnhonjkaaW.PrintWords Go.Proofs.Ytdjdnllnhonjkaa.PW Go.Proofs.Ytdjdnllnhonjkaa.Pc Go.Proofs.Ytdjdnllnhonjkaa.Ma Dg

/-- A row of digits that is handed back. -/
def GivesMg (w : World) (n : Nat) (e : Ending) (w' : World) : Prop :=
  ∃ A c, e = .returned (.slice A (D n).length c) ∧ Mg w' A c (D n) ∧ Below w.heap.size w w'

theorem cTrim {w : World} {A : Option Addr} {c : Nat} {xs : List Int} (h : Mg w A c xs) (hd : Dig 4294967296 xs) (hl : xs.length ≤ 1099511627776) :
    Calls Try.prog 114 #[.slice A xs.length c] w (GivesMg w (val 4294967296 xs).toNat) := by
  obtain ⟨k, hk⟩ := (Pm.trim _ xs rfl hd hl).rounds
  refine (impl_magTrim.calls k _ A c xs _ w (h.to_V (base := w.heap.size)) hk).mono ?_
  rintro e w' ⟨v, rfl, hv, hb⟩
  obtain ⟨B, d, rfl, hm⟩ := Mg.of_V hv
  exact ⟨B, d, rfl, hm, hb⟩

/-- An integer that is handed back, written at block p. -/
def Puts (w : World) (p : Nat) (z : Int) (e : Ending) (w' : World) : Prop :=
  e = .returned (.pointer (some ⟨p, 0, none⟩)) ∧ Z w' p z ∧ w.grownBy w' (some p)

theorem puts_of {w w1 : World} {p : Nat} {b : Bool} {B A : Option Addr} {n c d : Nat} {z : Int} {neg : Bool} (hp : w.heap[p]? = some (.cells #[.bool b, .slice B n d] 76 (0, 0))) (hb : Below w.heap.size w w1)
    (hm : Mg w1 A c (D z.natAbs)) (hn : neg = decide (z < 0)) :
    Puts w p z (.returned (.pointer (some ⟨p, 0, none⟩))) ((w1.setCell ⟨p, 1, none⟩ (.slice A (D z.natAbs).length c)).setCell ⟨p, 0, none⟩ (.bool neg)) := by
  have hlt : p < w.heap.size := (Array.getElem?_eq_some_iff.1 hp).1
  have hp1 : w1.heap[p]? = some (.cells #[.bool b, .slice B n d] 76 (0, 0)) := (hb.block p hlt).trans hp
  have s1 := blk_set hp1 1 (.slice A (D z.natAbs).length c)
  have s2 := blk_set s1 0 (.bool neg)
  have g1 : w1.grownBy ((w1.setCell ⟨p, 1, none⟩ (.slice A (D z.natAbs).length c)).setCell ⟨p, 0, none⟩ (.bool neg)) (some p) := by
    refine ⟨rfl, rfl, rfl, by simp [World.setCell], fun k hk hne => ?_⟩
    have hne' : k ≠ p := fun e => hne (by rw [e])
    rw [Below.heap_setCell _ ⟨p, 0, none⟩ _ k hne', Below.heap_setCell _ ⟨p, 1, none⟩ _ k hne']
  refine ⟨rfl, ⟨A, c, ?_, hm.grown g1 ⟨b, B, n, d, hp1⟩⟩, grown_trans (grown_below hb _) g1⟩
  rw [s2, hn]
  rfl

set_option maxHeartbeats 400000 in
theorem put {w : World} {p : Nat} {neg : Bool} {A : Option Addr} {c : Nat} {xs : List Int} (hp : Blk w p) (hm : Mg w A c xs) (hd : Dig 4294967296 xs) (hl : xs.length ≤ 1099511627776) :
    Calls Try.prog 115 #[.pointer (some ⟨p, 0, none⟩), .bool neg, .slice A xs.length c] w (Puts w p (if neg = true then -(val 4294967296 xs) else val 4294967296 xs)) := by
  have hT := cTrim hm hd hl
  have hv0 := val_nonneg hd
  obtain ⟨b, B, n, d, hb⟩ := hp
  have hlt : p < w.heap.size := (Array.getElem?_eq_some_iff.1 hb).1
  have HB := Lib.hid hb
  clear hb hm hd hl
  generalize hx : val 4294967296 xs = x at *
  obtain ⟨m, rfl⟩ := Int.eq_ofNat_of_zero_le hv0
  rw [Int.toNat_natCast] at hT
  clear hx hv0
  have HT := Lib.hid hT
  clear hT
  have hE : ∀ w1 : World, Below w.heap.size w w1 → (w1.cell? ⟨p, 0, none⟩ = some (.bool b) ∧ w1.cell? ⟨p, 1, none⟩ = some (.slice B n d) ∧ w1.frozen? ⟨p, 0, none⟩ = false ∧ w1.frozen? ⟨p, 1, none⟩ = false) := fun w1 h => by
    have h1 := (h.block p hlt).trans HB.out
    exact ⟨blk_cell h1 0, blk_cell h1 1, blk_frozen h1 0, blk_frozen h1 1⟩
  have HE := Lib.hid hE
  clear hE
  have hgoal : ∀ (nb : Bool) (w1 : World) (A' : Option Addr) (c' : Nat), Below w.heap.size w w1 → Mg w1 A' c' (D m) → nb = decide ((if neg = true then -(m : Int) else (m : Int)) < 0) → Puts w p (if neg = true then -(m : Int) else (m : Int)) (.returned (.pointer (some ⟨p, 0, none⟩))) ((w1.setCell ⟨p, 1, none⟩ (.slice A' (D m).length c')).setCell ⟨p, 0, none⟩ (.bool nb)) := by
    intro nb w1 A' c' hbl hmg hnb
    have e : (if neg = true then -(m : Int) else (m : Int)).natAbs = m := by split <;> omega
    have := puts_of (z := if neg = true then -(m : Int) else (m : Int)) (A := A') (c := c') HB.out hbl (by rw [e]; exact hmg) hnb
    rw [e] at this
    exact this
  have HG := Lib.hid hgoal
  clear hgoal
  cases neg with
  | false =>
    go_enter Try.func115, Try.ntmps115
    go_wp2_with fail
    refine HT.out.mono ?_
    rintro e w1 ⟨A', c', rfl, hmg, hbl⟩
    obtain ⟨k0, k1, f0, f1⟩ := HE.out w1 hbl
    have h2 := Lib.hid (HG.out false w1 A' c' hbl hmg (by simp))
    clear hmg
    have HBL := Lib.hid hbl
    clear hbl
    go_wp2
    go_ret
    exact h2.out
  | true =>
    by_cases h0 : m = 0
    · subst h0
      have hlen : (D 0).length = 0 := by rw [D_zero]; rfl
      go_enter Try.func115, Try.ntmps115
      go_wp2_with fail
      refine HT.out.mono ?_
      rintro e w1 ⟨A', c', rfl, hmg, hbl⟩
      obtain ⟨k0, k1, f0, f1⟩ := HE.out w1 hbl
      have h3 := HG.out false w1 A' c' hbl hmg (by simp)
      rw [hlen] at h3
      have h2 := Lib.hid h3
      clear hmg h3
      have HBL := Lib.hid hbl
      clear hbl
      go_wp2
      go_ret
      exact h2.out
    · have hlen : 0 < (D m).length := D_pos h0
      have HL := Lib.hid hlen
      go_enter Try.func115, Try.ntmps115
      go_wp2_with fail
      refine HT.out.mono ?_
      rintro e w1 ⟨A', c', rfl, hmg, hbl⟩
      obtain ⟨k0, k1, f0, f1⟩ := HE.out w1 hbl
      have h2 := Lib.hid (HG.out true w1 A' c' hbl hmg (by simp; omega))
      clear hmg
      have HBL := Lib.hid hbl
      clear hbl
      go_wp2
      go_ret
      exact h2.out
end Go.Proofs.Ytdjdnllnhonjkaa.Mb
end

section
/- Walks: small integers made. -/
set_option linter.unusedVariables false
set_option linter.unusedSimpArgs false
namespace Go.Proofs.Ytdjdnllnhonjkaa.Mc
open Go.RowKit Go.Proofs.YtdjdnllnhonjkaaW.PrintWords Go.Proofs.Ytdjdnllnhonjkaa.PW Go.Proofs.Ytdjdnllnhonjkaa.Pc Go.Proofs.Ytdjdnllnhonjkaa.Ma Go.Proofs.Ytdjdnllnhonjkaa.Mb Dg

/-- A row written out. -/
theorem Mg.row {w : World} {g : Nat} {cs : Array Value} {t : TypeId} {xs : List Int} (h : w.heap[g]? = some (.cells cs t (0, 0))) (hx : cs.toList = xs.map (Value.int .u32)) (hl : xs.length ≤ 9223372036854775807) : Mg w (some ⟨g, 0, none⟩) xs.length xs := by
  refine ⟨⟨rfl, hl, fun _ => ⟨_, rfl, fun j p hp => ⟨[.int .u32 p], rfl, rfl, fun i u hu => ?_⟩⟩⟩, Nat.le_refl _⟩
  have hi : i = 0 := by
    have := (List.getElem?_eq_some_iff.1 hu).1
    simp at this
    exact this
  subst hi
  simp at hu
  subst hu
  have hsz : (Kd.int .u32).sz = 1 := rfl
  rw [hsz, Nat.mul_one, Nat.add_zero, add_plain, blk_cell h, ← Array.getElem?_toList, hx, List.getElem?_map, hp]
  rfl

theorem Puts.below {w w1 : World} {p : Nat} {z : Int} {e : Ending} {w2 : World} (hb : Below w.heap.size w w1) (h : Puts w1 p z e w2) : Puts w p z e w2 :=
  ⟨h.1, h.2.1, grown_trans (grown_below hb _) h.2.2⟩

/-- Two digits, written out and put. -/
theorem put_two {w : World} {p : Nat} {neg : Bool} {a b n : Int} (hp : Blk w p) (a0 : 0 ≤ a) (a1 : a < 4294967296) (b0 : 0 ≤ b) (b1 : b < 4294967296) (hn : (if neg = true then -(a + 4294967296 * b) else a + 4294967296 * b) = n) :
    Calls Try.prog 115 #[.pointer (some ⟨p, 0, none⟩), .bool neg, .slice (some ⟨w.heap.size, 0, none⟩) 2 2] (w.alloc (.cells #[.int .u32 a, .int .u32 b] 107)) (Puts w p n) := by
  have hm : Mg (w.alloc (.cells #[.int .u32 a, .int .u32 b] 107)) (some ⟨w.heap.size, 0, none⟩) 2 [a, b] := Mg.row (heap_alloc_new w _) rfl (by simp)
  have hd : Dig 4294967296 [a, b] := Dig.cons a0 a1 (Dig.cons b0 b1 Dig.nil)
  refine (put (neg := neg) (hp.below (below_alloc w _)) hm hd (by simp)).mono fun e w' h => ?_
  have hv : val 4294967296 [a, b] = a + 4294967296 * b := by simp only [val_cons, val_nil]; omega
  rw [hv, hn] at h
  exact Puts.below (below_alloc w _) h

set_option maxHeartbeats 400000 in
theorem setInt64 {w : World} {p : Nat} {n : Int} (hp : Blk w p) (h1 : -9223372036854775808 ≤ n) (h2 : n ≤ 9223372036854775807) :
    Calls Try.prog 108 #[.pointer (some ⟨p, 0, none⟩), .int .i64 n] w (Puts w p n) := by
  by_cases hn : n < 0
  · have e1 : IntKind.u64.wrap (-(IntKind.u64.wrap n)) = -n := by rw [IntKind.wrap_u64, IntKind.wrap_u64]; omega
    have E1 := Lib.hid e1
    clear e1
    go_enter Try.func108, Try.ntmps108
    go_wp2_with fail
    rw [E1.out]
    refine (put_two (n := n) hp (by omega) (by omega) (by omega) (by omega) (by simp; omega)).mono ?_
    rintro e w1 ⟨rfl, hz, hg⟩
    have h3 : Puts w p n _ w1 := ⟨rfl, hz, hg⟩
    have H3 := Lib.hid h3
    clear h3 hz hg
    go_wp2
    go_ret
    exact H3.out
  · go_enter Try.func108, Try.ntmps108
    go_wp2_with fail
    refine (put_two (n := n) hp (by omega) (by omega) (by omega) (by omega) (by simp; omega)).mono ?_
    rintro e w1 ⟨rfl, hz, hg⟩
    have h3 : Puts w p n _ w1 := ⟨rfl, hz, hg⟩
    have H3 := Lib.hid h3
    clear h3 hz hg
    go_wp2
    go_ret
    exact H3.out

/-- A new integer that is handed back. -/
def News (w : World) (z : Int) (e : Ending) (w' : World) : Prop :=
  ∃ g, e = .returned (.pointer (some ⟨g, 0, none⟩)) ∧ Z w' g z ∧ w.heap.size ≤ g ∧ Below w.heap.size w w'

theorem Puts.news {w : World} {z : Int} {e : Ending} {w' : World} {o : Obj} (h : Puts (w.alloc o) w.heap.size z e w') : News w z e w' :=
  ⟨w.heap.size, h.1, h.2.1, Nat.le_refl _, below_grown (below_alloc w o) h.2.2 (Nat.le_refl _)⟩

set_option maxHeartbeats 400000 in
theorem newInt {w : World} {n : Int} (h1 : -9223372036854775808 ≤ n) (h2 : n ≤ 9223372036854775807) :
    Calls Try.prog 67 #[.int .i64 n] w (News w n) := by
  go_enter Try.func67, Try.ntmps67
  go_wp2_with fail
  refine (setInt64 (n := n) (Z.new w).blk h1 h2).mono ?_
  intro e w1 hp
  have hN := Lib.hid (Puts.news hp)
  obtain ⟨rfl, hz, hg⟩ := hp
  clear hz hg
  go_wp2
  go_ret
  exact hN.out
end Go.Proofs.Ytdjdnllnhonjkaa.Mc
end

section
/- Walks: what the program's words on digits hand back; shifts, signs and sums of integers. -/
set_option linter.unusedVariables false
set_option linter.unusedSimpArgs false
namespace Go.Proofs.Ytdjdnllnhonjkaa.Md
open Go.RowKit Go.Proofs.YtdjdnllnhonjkaaW.PrintWords Go.Proofs.Ytdjdnllnhonjkaa.PW Go.Proofs.Ytdjdnllnhonjkaa.Pc Go.Proofs.Ytdjdnllnhonjkaa.Ma Go.Proofs.Ytdjdnllnhonjkaa.Mb Go.Proofs.Ytdjdnllnhonjkaa.Mc Dg

theorem gives_of {w : World} {n e' base : Nat} {ok : Nat → Prop} {v : Value} {e : Ending} {w' : World} (he : e = .returned v) (hv : Kd.V (Kd.int .u32) e' w' base ok v (D n)) (hb : Below w.heap.size w w') : GivesMg w n e w' := by
  obtain ⟨A, c, rfl, hm⟩ := Mg.of_V hv
  exact ⟨A, c, he, hm, hb⟩

theorem cAdd {w : World} {A B : Option Addr} {c d a b : Nat} (ha : Mg w A c (D a)) (hb : Mg w B d (D b)) (h1 : bl a ≤ 1073741823) (h2 : bl b ≤ 1073741823) :
    Calls Try.prog 112 #[.slice A (D a).length c, .slice B (D b).length d] w (GivesMg w (a + b)) := by
  rcases Nat.lt_or_ge (D a).length (D b).length with h | h
  · obtain ⟨k, hk⟩ := (Pn.add b a (by omega) h2).rounds
    refine (impl_magAdd.calls_lt k B d _ A c _ _ w hb.1 hb.2 ha.1 ha.2 (by simpa using h) hk).mono ?_
    rintro e w' ⟨v, he, hv, hbl⟩
    rw [Nat.add_comm] at hv
    exact gives_of he hv hbl
  · obtain ⟨k, hk⟩ := (Pn.add a b h h1).rounds
    refine (impl_magAdd.calls_ge k A c _ B d _ _ w ha.1 ha.2 hb.1 hb.2 (by simpa using h) hk).mono ?_
    rintro e w' ⟨v, he, hv, hbl⟩
    exact gives_of he hv hbl

theorem cSub {w : World} {A B : Option Addr} {c d a b : Nat} (ha : Mg w A c (D a)) (hb : Mg w B d (D b)) (h1 : bl a ≤ 1073741823) (h : b ≤ a) :
    Calls Try.prog 139 #[.slice A (D a).length c, .slice B (D b).length d] w (GivesMg w (a - b)) := by
  obtain ⟨k, hk⟩ := (Pn.sub a b h h1).rounds
  refine (impl_magSub.calls k A c _ B d _ _ w ha.1 ha.2 hb.1 hb.2 hk).mono ?_
  rintro e w' ⟨v, he, hv, hbl⟩
  exact gives_of he hv hbl

theorem cMul {w : World} {A B : Option Addr} {c d a b : Nat} (ha : Mg w A c (D a)) (hb : Mg w B d (D b)) (h : bl a + bl b ≤ 1073741823) :
    Calls Try.prog 113 #[.slice A (D a).length c, .slice B (D b).length d] w (GivesMg w (a * b)) := by
  obtain ⟨k, hk⟩ := (Pn.mul a b h).rounds
  refine (impl_magMul.calls k A c _ B d _ _ w ha.1 ha.2 hb.1 hb.2 hk).mono ?_
  rintro e w' ⟨v, he, hv, hbl⟩
  exact gives_of he hv hbl

theorem cLeft {w : World} {A : Option Addr} {c a n : Nat} (ha : Mg w A c (D a)) (h1 : bl a ≤ 536870912) (h2 : n ≤ 536870912) :
    Calls Try.prog 134 #[.slice A (D a).length c, .int .u64 n] w (GivesMg w (a * 2 ^ n)) := by
  obtain ⟨k, hk⟩ := (Po.left a n h1 h2).rounds
  refine (impl_magLeft.calls k A c _ _ _ w ha.1 ha.2 hk).mono ?_
  rintro e w' ⟨v, he, hv, hbl⟩
  exact gives_of he hv hbl

theorem cRight {w : World} {A : Option Addr} {c a n : Nat} (ha : Mg w A c (D a)) (h1 : bl a ≤ 536870912) (h2 : n ≤ 536870912) :
    Calls Try.prog 138 #[.slice A (D a).length c, .int .u64 n] w (GivesMg w (a / 2 ^ n)) := by
  obtain ⟨k, hk⟩ := (Po.right a n h1 h2).rounds
  refine (impl_magRight.calls k A c _ _ _ w ha.1 ha.2 hk).mono ?_
  rintro e w' ⟨v, he, hv, hbl⟩
  exact gives_of he hv hbl

theorem cClone {w : World} {A : Option Addr} {c a : Nat} (ha : Mg w A c (D a)) (h1 : bl a ≤ 1073741823) :
    Calls Try.prog 135 #[.slice A (D a).length c] w (GivesMg w a) := by
  have := D_len a
  refine (slices_Clone_uint32_uint32.calls A c _ (D a) w ha.1 ha.2 (by unfold slices_Clone_uint32_uint32.f; rw [if_pos (by omega)])).mono ?_
  rintro e w' ⟨v, he, hv, hbl⟩
  exact gives_of he (Kd.R_V (base' := 0) hv) hbl

theorem cBits {w : World} {A : Option Addr} {c a : Nat} (ha : Mg w A c (D a)) (h1 : bl a ≤ 1073741824) :
    Calls Try.prog 106 #[.slice A (D a).length c] w fun e w' => e = .returned (.int .i64 ((bl a : Nat) : Int)) ∧ ∃ n, w' = w.drewN n := by
  obtain ⟨k, hk⟩ := (Pm.bits a h1).rounds
  refine (impl_magBits.calls k A c _ _ w ha.1 ha.2 hk).mono ?_
  rintro e w' ⟨he, hw⟩
  exact ⟨he, hw.out⟩

theorem cCmp {w : World} {A B : Option Addr} {c d a b : Nat} (ha : Mg w A c (D a)) (hb : Mg w B d (D b)) (h1 : bl a ≤ 1073741824) (h2 : bl b ≤ 1073741824) :
    Calls Try.prog 110 #[.slice A (D a).length c, .slice B (D b).length d] w fun e w' => e = .returned (.int .i64 (Pm.sgn ((a : Int) - b))) ∧ ∃ n, w' = w.drewN n := by
  obtain ⟨k, hk⟩ := (Pm.cmp a b h1 h2).rounds
  refine (impl_magCmp.calls k A c _ B d _ _ w ha.1 ha.2 hb.1 hb.2 hk).mono ?_
  rintro e w' ⟨he, hw⟩
  exact ⟨he, hw.out⟩

theorem GivesMg.of {w W w' : World} {n : Nat} {e : Ending} (hb : Below w.heap.size w W) (h : GivesMg W n e w') : GivesMg w n e w' := by
  obtain ⟨A, c, he, hm, hbl⟩ := h
  exact ⟨A, c, he, hm, below_then hb hbl⟩

/-- Put behind another step. -/
theorem put_of {w : World} {p : Nat} {neg : Bool} {A : Option Addr} {c n : Nat} {w1 : World} (hp : Blk w p) (hb : Below w.heap.size w w1) (hm : Mg w1 A c (D n)) (h1 : bl n ≤ 1099511627776) :
    Calls Try.prog 115 #[.pointer (some ⟨p, 0, none⟩), .bool neg, .slice A (D n).length c] w1 (Puts w p (if neg = true then -(n : Int) else n)) := by
  have hl := D_len n
  refine (put (neg := neg) (hp.below hb) hm (D_dig n) (by omega)).mono fun e w' h => ?_
  rw [D_val] at h
  exact Puts.below hb h

set_option maxHeartbeats 800000 in
theorem lsh {w : World} {p q : Nat} {z : Int} {n : Nat} (hp : Blk w p) (hz : Z w q z) (h1 : bl z.natAbs ≤ 268435456) (h2 : n ≤ 268435456) :
    Calls Try.prog 103 #[.pointer (some ⟨p, 0, none⟩), .pointer (some ⟨q, 0, none⟩), .int .u64 n] w (Puts w p (z * 2 ^ n)) := by
  obtain ⟨A, c, hb, hm⟩ := hz
  have hq : q < w.heap.size := (Array.getElem?_eq_some_iff.1 hb).1
  have k0 := blk_cell hb 0
  have k1 := blk_cell hb 1
  have hgoal : (if decide (z < 0) = true then -((z.natAbs * 2 ^ n : Nat) : Int) else ((z.natAbs * 2 ^ n : Nat) : Int)) = z * 2 ^ n := by
    rw [Int.natCast_mul, show ((2 ^ n : Nat) : Int) = 2 ^ n by simp]
    by_cases hz : z < 0
    · rw [if_pos (by simpa using hz), ← Int.neg_mul]; congr 1; omega
    · rw [if_neg (by simpa using hz)]; congr 1; omega
  have hbl : bl (z.natAbs * 2 ^ n) ≤ 1099511627776 := Nat.le_trans (bl_shift_le _ _) (by omega)
  have hL := fun (W : World) (hb : Below w.heap.size w W) => (cLeft (hm.below hb) (n := n) (by omega) (by omega)).mono fun e w' h => GivesMg.of hb h
  have hP := fun (w1 : World) (A' : Option Addr) (c' : Nat) h1 h2 => put_of (w1 := w1) (A := A') (c := c') (neg := decide (z < 0)) hp h1 h2 hbl
  rw [hgoal] at hP
  have HL := Lib.hid hL
  have HP := Lib.hid hP
  clear hL hP hgoal hbl h1 h2 hm hb hp
  generalize hneg : decide (z < 0) = neg at *
  simp only [List.getElem?_toArray, List.getElem?_cons_zero, List.getElem?_cons_succ] at k0 k1
  have HN := Lib.hid hneg
  clear hneg
  go_enter Try.func103, Try.ntmps103
  go_wp2
  go_region_with (first | (go_at_call 134; refine (HL.out _ (by first | exact Below.refl _ _ | exact (Below.refl _ _).drew)).mono ?_; rintro e w1 ⟨A', c', rfl, hm', hb'⟩; have HPM := Lib.hid (HP.out w1 A' c' hb' hm'); have k0' := (hb'.cell (p := ⟨q, 0, none⟩) hq).trans k0; clear hm' hb') | (go_at_call 115; refine HPM.out.mono ?_; rintro e w2 ⟨rfl, hz2, hg2⟩; have HE := Lib.hid (show Puts w p (z * 2 ^ n) _ w2 from ⟨rfl, hz2, hg2⟩); clear hz2 hg2))
  all_goals go_wp2
  all_goals go_ret
  all_goals exact HE.out
end Go.Proofs.Ytdjdnllnhonjkaa.Md
end

section
/- Walks: signs, lengths, comparisons; opposites, absolute values, copies. -/
set_option linter.unusedVariables false
set_option linter.unusedSimpArgs false
namespace Go.Proofs.Ytdjdnllnhonjkaa.Me
open Go.RowKit Go.Proofs.YtdjdnllnhonjkaaW.PrintWords Go.Proofs.Ytdjdnllnhonjkaa.PW Go.Proofs.Ytdjdnllnhonjkaa.Pc Go.Proofs.Ytdjdnllnhonjkaa.Ma Go.Proofs.Ytdjdnllnhonjkaa.Mb Go.Proofs.Ytdjdnllnhonjkaa.Mc Go.Proofs.Ytdjdnllnhonjkaa.Md Dg

theorem Z.open {w : World} {q : Nat} {z : Int} (h : Z w q z) : ∃ A c, w.cell? ⟨q, 0, none⟩ = some (.bool (decide (z < 0))) ∧ w.cell? ⟨q, 1, none⟩ = some (.slice A (D z.natAbs).length c) ∧ Mg w A c (D z.natAbs) ∧ q < w.heap.size := by
  obtain ⟨A, c, hb, hm⟩ := h
  exact ⟨A, c, blk_cell hb 0, blk_cell hb 1, hm, (Array.getElem?_eq_some_iff.1 hb).1⟩

/-- A step that only draws. -/
def Tells (w : World) (v : Value) (e : Ending) (w' : World) : Prop := e = .returned v ∧ ∃ n, w' = w.drewN n

theorem below_drawn {w : World} (n : Nat) : Below w.heap.size w (w.drewN n) := pw_below_drewN (Below.refl _ _) n

set_option maxHeartbeats 400000 in
theorem sign {w : World} {q : Nat} {z : Int} (hz : Z w q z) : Calls Try.prog 129 #[.pointer (some ⟨q, 0, none⟩)] w fun e w' => e = .returned (.int .i64 (Pm.sgn z)) ∧ w = w' := by
  obtain ⟨A, c, k0, k1, hm, hq⟩ := Z.open hz
  clear hz hm
  by_cases h : z < 0
  · have e : Pm.sgn z = -1 := by unfold Pm.sgn; rw [if_pos h]
    rw [show decide (z < 0) = true by simpa using h] at k0
    rw [e]
    clear e h
    go_enter Try.func129, Try.ntmps129
    go_wp2
    go_ret
    exact ⟨rfl, rfl⟩
  · rw [show decide (z < 0) = false by simpa using h] at k0
    by_cases h0 : z = 0
    · subst h0
      have e : (D (0 : Int).natAbs).length = 0 := by show (D 0).length = 0; rw [D_zero]; rfl
      rw [e] at k1
      clear e h
      go_enter Try.func129, Try.ntmps129
      go_wp2
      go_ret
      exact ⟨rfl, rfl⟩
    · have e : Pm.sgn z = 1 := by unfold Pm.sgn; rw [if_neg h, if_neg h0]
      have hp : 0 < (D z.natAbs).length := D_pos (by omega)
      rw [e]
      clear e h h0
      generalize (D z.natAbs).length = n at *
      go_enter Try.func129, Try.ntmps129
      go_wp2
      go_ret
      exact ⟨rfl, rfl⟩

set_option maxHeartbeats 400000 in
theorem bitLen {w : World} {q : Nat} {z : Int} (hz : Z w q z) (h1 : bl z.natAbs ≤ 1073741824) : Calls Try.prog 63 #[.pointer (some ⟨q, 0, none⟩)] w (Tells w (.int .i64 ((bl z.natAbs : Nat) : Int))) := by
  obtain ⟨A, c, k0, k1, hm, hq⟩ := Z.open hz
  have hB := Lib.hid (cBits hm h1)
  clear hz hm h1
  go_enter Try.func63, Try.ntmps63
  go_wp2_with fail
  refine hB.out.mono ?_
  rintro e w1 ⟨rfl, n, rfl⟩
  go_wp2
  go_ret
  exact ⟨rfl, n, rfl⟩

theorem natAbs_neg_if (z : Int) : (if (!decide (z < 0)) = true then -(z.natAbs : Int) else (z.natAbs : Int)) = -z := by
  by_cases h : z < 0
  · have : decide (z < 0) = true := by simpa using h
    rw [this]; simp; omega
  · have : decide (z < 0) = false := by simpa using h
    rw [this]; simp; omega
theorem natAbs_if (z : Int) : (if decide (z < 0) = true then -(z.natAbs : Int) else (z.natAbs : Int)) = z := by
  by_cases h : z < 0
  · rw [if_pos (by simpa using h)]; omega
  · rw [if_neg (by simpa using h)]; omega

set_option maxHeartbeats 800000 in
theorem neg {w : World} {p q : Nat} {z : Int} (hp : Blk w p) (hz : Z w q z) (h1 : bl z.natAbs ≤ 1073741823) :
    Calls Try.prog 105 #[.pointer (some ⟨p, 0, none⟩), .pointer (some ⟨q, 0, none⟩)] w (Puts w p (-z)) := by
  obtain ⟨A, c, k0, k1, hm, hq⟩ := Z.open hz
  have hL := fun (W : World) (hb : Below w.heap.size w W) => (cClone (hm.below hb) h1).mono fun e w' h => GivesMg.of hb h
  have hP := fun (w1 : World) (A' : Option Addr) (c' : Nat) h1 h2 => put_of (w1 := w1) (A := A') (c := c') (neg := !decide (z < 0)) (n := z.natAbs) hp h1 h2 (by omega)
  rw [natAbs_neg_if] at hP
  have HL := Lib.hid hL
  have HP := Lib.hid hP
  clear hL hP h1 hm hp hz
  generalize decide (z < 0) = b at *
  go_enter Try.func105, Try.ntmps105
  go_wp2
  go_region_with (first | (go_at_call 135; refine (HL.out _ (by first | exact Below.refl _ _ | exact (Below.refl _ _).drew)).mono ?_; rintro e w1 ⟨A', c', rfl, hm', hb'⟩; have HPM := Lib.hid (HP.out w1 A' c' hb' hm'); have k0' := (hb'.cell (p := ⟨q, 0, none⟩) hq).trans k0; clear hm' hb') | (go_at_call 115; refine HPM.out.mono ?_; rintro e w2 ⟨rfl, hz2, hg2⟩; have HE := Lib.hid (show Puts w p (-z) _ w2 from ⟨rfl, hz2, hg2⟩); clear hz2 hg2))
  all_goals go_wp2
  all_goals go_ret
  all_goals exact HE.out

set_option maxHeartbeats 800000 in
theorem abs {w : World} {p q : Nat} {z : Int} (hp : Blk w p) (hz : Z w q z) (h1 : bl z.natAbs ≤ 1073741823) :
    Calls Try.prog 130 #[.pointer (some ⟨p, 0, none⟩), .pointer (some ⟨q, 0, none⟩)] w (Puts w p (z.natAbs : Int)) := by
  obtain ⟨A, c, k0, k1, hm, hq⟩ := Z.open hz
  have hL := fun (W : World) (hb : Below w.heap.size w W) => (cClone (hm.below hb) h1).mono fun e w' h => GivesMg.of hb h
  have hP := fun (w1 : World) (A' : Option Addr) (c' : Nat) h1 h2 => put_of (w1 := w1) (A := A') (c := c') (neg := false) (n := z.natAbs) hp h1 h2 (by omega)
  simp only [Bool.false_eq_true, if_false] at hP
  have HL := Lib.hid hL
  have HP := Lib.hid hP
  clear hL hP h1 hm hp hz
  generalize decide (z < 0) = b at *
  go_enter Try.func130, Try.ntmps130
  go_wp2_with (first | (go_at_call 135; refine (HL.out _ (by first | exact Below.refl _ _ | exact (Below.refl _ _).drew)).mono ?_; rintro e w1 ⟨A', c', rfl, hm', hb'⟩; have HPM := Lib.hid (HP.out w1 A' c' hb' hm'); have k0' := (hb'.cell (p := ⟨q, 0, none⟩) hq).trans k0; clear hm' hb') | (go_at_call 115; refine HPM.out.mono ?_; rintro e w2 ⟨rfl, hz2, hg2⟩; have HE := Lib.hid (show Puts w p (z.natAbs : Int) _ w2 from ⟨rfl, hz2, hg2⟩); clear hz2 hg2))
  all_goals go_ret
  all_goals exact HE.out

set_option maxHeartbeats 800000 in
theorem set {w : World} {p q : Nat} {z : Int} (hp : Blk w p) (hz : Z w q z) (h1 : bl z.natAbs ≤ 1073741823) :
    Calls Try.prog 133 #[.pointer (some ⟨p, 0, none⟩), .pointer (some ⟨q, 0, none⟩)] w (Puts w p z) := by
  obtain ⟨A, c, k0, k1, hm, hq⟩ := Z.open hz
  have hL := fun (W : World) (hb : Below w.heap.size w W) => (cClone (hm.below hb) h1).mono fun e w' h => GivesMg.of hb h
  have hP := fun (w1 : World) (A' : Option Addr) (c' : Nat) h1 h2 => put_of (w1 := w1) (A := A') (c := c') (neg := decide (z < 0)) (n := z.natAbs) hp h1 h2 (by omega)
  rw [natAbs_if] at hP
  have HL := Lib.hid hL
  have HP := Lib.hid hP
  clear hL hP h1 hm hp hz
  generalize decide (z < 0) = b at *
  go_enter Try.func133, Try.ntmps133
  go_wp2
  go_region_with (first | (go_at_call 135; refine (HL.out _ (by first | exact Below.refl _ _ | exact (Below.refl _ _).drew)).mono ?_; rintro e w1 ⟨A', c', rfl, hm', hb'⟩; have HPM := Lib.hid (HP.out w1 A' c' hb' hm'); have k0' := (hb'.cell (p := ⟨q, 0, none⟩) hq).trans k0; clear hm' hb') | (go_at_call 115; refine HPM.out.mono ?_; rintro e w2 ⟨rfl, hz2, hg2⟩; have HE := Lib.hid (show Puts w p z _ w2 from ⟨rfl, hz2, hg2⟩); clear hz2 hg2))
  all_goals go_wp2
  all_goals go_ret
  all_goals exact HE.out
end Go.Proofs.Ytdjdnllnhonjkaa.Me
end

section
/- Walks: the bits that one of two integers has. -/
set_option linter.unusedVariables false
set_option linter.unusedSimpArgs false
namespace Go.Proofs.Ytdjdnllnhonjkaa.Mf
open Go.RowKit Go.Proofs.YtdjdnllnhonjkaaW.PrintWords Go.Proofs.Ytdjdnllnhonjkaa.PW Go.Proofs.Ytdjdnllnhonjkaa.Pc Go.Proofs.Ytdjdnllnhonjkaa.Ma Go.Proofs.Ytdjdnllnhonjkaa.Mb Go.Proofs.Ytdjdnllnhonjkaa.Mc Go.Proofs.Ytdjdnllnhonjkaa.Md Go.Proofs.Ytdjdnllnhonjkaa.Me Dg

theorem D_or (a b i : Nat) : (D (a ||| b)).getD i 0 = (((a / 4294967296 ^ i % 4294967296) ||| (b / 4294967296 ^ i % 4294967296) : Nat) : Int) := by
  rw [D_getD]
  congr 1
  rw [show (4294967296 : Nat) = 2 ^ 32 from rfl, ← Nat.pow_mul]
  have h1 : (a ||| b) / 2 ^ (32 * i) = a / 2 ^ (32 * i) ||| b / 2 ^ (32 * i) := by
    rw [← Nat.shiftRight_eq_div_pow, ← Nat.shiftRight_eq_div_pow, ← Nat.shiftRight_eq_div_pow, Nat.shiftRight_or_distrib]
  rw [h1, Nat.or_mod_two_pow]

/-- The digits of two numbers' bits together. -/
theorem or_list {a b : Nat} {ys : List Int} (hl : ys.length = max (D a).length (D b).length) (h : ∀ j, j < ys.length → ys.getD j 0 = bits .or .u32 ((D a).getD j 0) ((D b).getD j 0)) : Dig 4294967296 ys ∧ val 4294967296 ys = ((a ||| b : Nat) : Int) := by
  have hb : ∀ j, bits .or .u32 ((D a).getD j 0) ((D b).getD j 0) = (((a ||| b) / 4294967296 ^ j % 4294967296 : Nat) : Int) := by
    intro j
    rw [← D_getD, D_or, D_getD, D_getD]
    exact (bits_nat .u32 32 (by decide) Po.wraps_u32 _ _ (Nat.mod_lt _ (by decide)) (Nat.mod_lt _ (by decide))).2
  have h2 : ∀ j, j < ys.length → ys.getD j 0 = (((a ||| b) / 4294967296 ^ j % 4294967296 : Nat) : Int) := fun j hj => by rw [h j hj, hb]
  constructor
  · exact dig_of_getD fun j hj => by rw [h2 j hj]; have := Nat.mod_lt ((a ||| b) / 4294967296 ^ j) (show 0 < 4294967296 by decide); omega
  · rw [val_digits (by decide) ys (a ||| b) h2]
    congr 1
    apply Nat.mod_eq_of_lt
    have e : (4294967296 : Nat) = 2 ^ 32 := rfl
    rw [e, ← Nat.pow_mul]
    apply Nat.or_lt_two_pow
    · have := D_bl a
      have h3 := lt_bl a
      have := Nat.pow_le_pow_right (n := 2) (by decide) (show bl a ≤ 32 * ys.length by omega)
      omega
    · have := D_bl b
      have h3 := lt_bl b
      have := Nat.pow_le_pow_right (n := 2) (by decide) (show bl b ≤ 32 * ys.length by omega)
      omega

/-- A made row, and a shorter one copied to its head. -/
theorem made_list (n : Nat) : (madeCells #[Value.int .u32 0] n).toList = (List.replicate n (0 : Int)).map (Value.int .u32) := by
  apply List.ext_getElem
  · simp [madeCells]
  · intro i h1 h2
    simp [madeCells, Nat.mod_one]
theorem splice_list {a : List Int} {n : Nat} (h : a.length ≤ n) : splice ((List.replicate n (0 : Int)).map (Value.int .u32)) 0 (a.map (Value.int .u32)) = (a ++ List.replicate (n - a.length) 0).map (Value.int .u32) := by
  unfold splice
  simp

theorem append_zeros_getD (a : List Int) (k j : Nat) : (a ++ List.replicate k (0 : Int)).getD j 0 = a.getD j 0 := by
  rcases Nat.lt_or_ge j a.length with h | h
  · simp [List.getD, List.getElem?_append_left h]
  · rw [getD_ge h]
    simp [List.getD, List.getElem?_append_right h, List.getElem?_replicate]
    split <;> rfl

/-- Digits' bits written in place, up to i. -/
def OrTo (a b : Nat) (m i : Nat) (ys : List Int) : Prop := ys.length = m ∧ (∀ j, j < i → ys.getD j 0 = bits .or .u32 ((D a).getD j 0) ((D b).getD j 0)) ∧ (∀ j, i ≤ j → ys.getD j 0 = (D a).getD j 0)

theorem OrTo.step {a b m i : Nat} {ys : List Int} (h : OrTo a b m i ys) (hi : i < m) : OrTo a b m (i + 1) (ys.set i (bits .or .u32 ((D a).getD i 0) ((D b).getD i 0))) := by
  obtain ⟨h1, h2, h3⟩ := h
  refine ⟨by simpa using h1, fun j hj => ?_, fun j hj => ?_⟩
  · by_cases e : j = i
    · subst e; rw [Dg.getD_set_eq (by omega)]
    · rw [Dg.getD_set_ne (by omega)]; exact h2 j (by omega)
  · rw [Dg.getD_set_ne (by omega)]; exact h3 j (by omega)

theorem or_zero (a j : Nat) : bits .or .u32 ((D a).getD j 0) 0 = (D a).getD j 0 := by
  have := (bits_nat .u32 32 (by decide) Po.wraps_u32 (a / 4294967296 ^ j % 4294967296) 0 (Nat.mod_lt _ (by decide)) (by decide)).2
  rw [D_getD]
  simpa using this

theorem OrTo.done {a b m : Nat} {ys : List Int} (h : OrTo a b m (D b).length ys) (hm : m = max (D a).length (D b).length) : Dig 4294967296 ys ∧ val 4294967296 ys = ((a ||| b : Nat) : Int) := by
  obtain ⟨h1, h2, h3⟩ := h
  refine or_list (by omega) fun j hj => ?_
  by_cases hjb : j < (D b).length
  · exact h2 j hjb
  · rw [h3 j (by omega), getD_ge (l := D b) (by omega), or_zero]

theorem nums_set {ys : List Int} {i : Nat} {x : Int} : (ys.map (Value.int .u32)).toArray.setIfInBounds i (.int .u32 x) = ((ys.set i x).map (Value.int .u32)).toArray := by
  simp [List.map_set]

theorem sizeU : (Try.prog.info? 107).map (·.size) = some 1 := by kernel_rfl

set_option maxHeartbeats 1600000 in
set_option maxRecDepth 100000 in
theorem orr {w : World} {p q s : Nat} {x y : Int} (hp : Blk w p) (hx : Z w q x) (hy : Z w s y) (h1 : bl x.natAbs ≤ 536870912) (h2 : bl y.natAbs ≤ 536870912) :
    Calls Try.prog 104 #[.pointer (some ⟨p, 0, none⟩), .pointer (some ⟨q, 0, none⟩), .pointer (some ⟨s, 0, none⟩)] w (Puts w p ((x.natAbs ||| y.natAbs : Nat) : Int)) := by
  obtain ⟨A, c, k0, k1, hm, hq⟩ := Z.open hx
  obtain ⟨B, d, j0, j1, hn, hs⟩ := Z.open hy
  have hl1 := D_len x.natAbs
  have hl2 := D_len y.natAbs
  generalize hla : (D x.natAbs).length = la at *
  generalize hlb : (D y.natAbs).length = lb at *
  have HLA := Lib.hid hla
  have HLB := Lib.hid hlb
  have HM := Lib.hid hm
  have HNN := Lib.hid hn
  have HPB := Lib.hid hp
  have hla2 : la ≤ 536870912 := by omega
  have hlb2 : lb ≤ 536870912 := by omega
  clear hla hlb
  clear hp hx hy hm hn h1 h2 hl1 hl2
  have hfin : ∀ (m : Nat) (ys : List Int) (wr : World), m = max la lb → OrTo x.natAbs y.natAbs m lb ys → wr.heap[w.heap.size]? = some (.cells (ys.map (Value.int .u32)).toArray 107 (0, 0)) → Below w.heap.size w wr →
      Calls Try.prog 115 #[.pointer (some ⟨p, 0, none⟩), .bool false, .slice (some ⟨w.heap.size, 0, none⟩) m m] wr (Puts w p ((x.natAbs ||| y.natAbs : Nat) : Int)) := by
    intro m ys wr hm hor hblk hb
    have hl := hor.1
    rw [← HLB.out] at hor
    obtain ⟨hd, hv⟩ := hor.done (by rw [HLA.out, HLB.out]; exact hm)
    have hr := Mg.row (xs := ys) hblk (by simp) (by omega)
    have := put (neg := false) (HPB.out.below hb) hr hd (by omega)
    rw [hl] at this
    refine this.mono fun e w' h => ?_
    rw [hv] at h
    exact Puts.below hb h
  have HF := Lib.hid hfin
  clear hfin
  by_cases hlt : la < lb
  · have hmk := run_make_row' (P := Try.prog) 74 107 (.int .u32 0) 4 Try.underlying74 infoU rfl .i64 .i64 lb (by omega) (by omega)
    have hlb : lb = max la lb := by omega
    have Hlb := Lib.hid hlb
    clear hlb
    have hlm : lb ≤ lb := Nat.le_refl _
    have HBEL := Lib.hid (show Below w.heap.size w ((w.alloc (.cells (madeCells #[Value.int .u32 0] lb) 107)).drew) from (below_alloc w _).drew)
    have HBLK := Lib.hid (show ((w.alloc (.cells (madeCells #[Value.int .u32 0] lb) 107)).drew).heap[w.heap.size]? = some (.cells ((List.replicate lb (0 : Int)).map (Value.int .u32)).toArray 107 (0, 0)) by
      rw [show ((List.replicate lb (0 : Int)).map (Value.int .u32)).toArray = madeCells #[Value.int .u32 0] lb by rw [← made_list]]
      exact heap_alloc_new w _)
    have HLEN := Lib.hid (show ((D x.natAbs).map (Value.int .u32)).length = Nat.min la lb by rw [List.length_map, HLA.out]; exact (Nat.min_eq_left (by omega)).symm)
    have HFIT := Lib.hid (show 0 + ((D x.natAbs).map (Value.int .u32)).length ≤ ((List.replicate lb (0 : Int)).map (Value.int .u32)).length by rw [List.length_map, List.length_map, List.length_replicate, HLA.out]; omega)
    have HONE := Lib.hid (show ∀ v ∈ (D x.natAbs).map (Value.int .u32), v.oneCell' = true by intro v hv; obtain ⟨u, _, rfl⟩ := List.mem_map.1 hv; rfl)
    have HPOS := Lib.hid (show 0 < ((D x.natAbs).map (Value.int .u32)).length → ∃ ad, A = some ad ∧ ∀ j v, ((D x.natAbs).map (Value.int .u32))[j]? = some v → ((w.alloc (.cells (madeCells #[Value.int .u32 0] lb) 107)).drew).cell? (ad.add j) = some v by
      intro hpos
      rw [List.length_map] at hpos
      have hC := HM.out.1
      obtain ⟨ad, had, _⟩ := Kd.at_int hC 0 (by omega) (by omega)
      subst had
      refine ⟨ad, rfl, fun j v hj => ?_⟩
      rw [List.getElem?_map] at hj
      have hjl : j < (D x.natAbs).length := by
        rcases Nat.lt_or_ge j (D x.natAbs).length with h | h
        · exact h
        · rw [List.getElem?_eq_none h] at hj; cases hj
      obtain ⟨ad', had', hc'⟩ := Kd.at_int hC (j : Int) (by omega) (by omega)
      cases had'
      rw [Int.toNat_natCast, rdN] at hc'
      rw [List.getElem?_eq_getElem hjl, Option.map_some] at hj
      cases hj
      rw [getD_lt hjl] at hc'
      exact (HBEL.out.cell (World.block_lt_of_cell? w _ hc')).trans hc')
    go_enter Try.func104, Try.ntmps104
    go_wp2
    go_region
    clear hmk
    go_wp2_with ((with_reducible refine gate_builtin (b := .copy) (xs := #[.tmp 22, .tmp 26]) rfl ?_); refine wpList_copy_splice rfl (.tmp 22) (.tmp 26) 74 74 rfl 107 Try.underlying74 sizeU (some ⟨w.heap.size, 0, none⟩) A lb lb la c rfl rfl w.heap.size 0 ((List.replicate lb (0 : Int)).map (Value.int .u32)) 107 HBLK.out ((D x.natAbs).map (Value.int .u32)) HLEN.out (fun h_ => ⟨rfl, HPOS.out h_⟩) HFIT.out HONE.out w.heap.size w HBEL.out (Nat.le_refl _) ?_; clear HBLK HLEN HPOS HFIT HONE HBEL; intro w3 hblk hbel; have HB3 := Lib.hid hblk.out; have HBL := Lib.hid hbel; have j1' := (hbel.cell (p := ⟨s, 1, none⟩) hs).trans j1; clear hblk hbel)
    go_loopw [33] (fun i wr => ∃ (k : Nat) (ys : List Int), i = .int .i64 k ∧ k ≤ lb ∧ Hid (OrTo x.natAbs y.natAbs lb k ys) ∧ Hid (wr.heap[w.heap.size]? = some (.cells (ys.map (Value.int .u32)).toArray 107 (0, 0))) ∧ Hid (Below w.heap.size w wr)) (fun i _ => lb - (intOf i).toNat)
    case atStart =>
      have HMA := HM.out
      refine ⟨0, D x.natAbs ++ List.replicate (lb - (D x.natAbs).length) 0, rfl, by omega, Lib.hid ⟨by rw [List.length_append, List.length_replicate, HLA.out]; omega, fun j hj => by omega, fun j _ => append_zeros_getD _ _ _⟩, Lib.hid ?_, HBL⟩
      have := HB3.out
      rw [splice_list (by rw [HLA.out]; omega)] at this
      exact this
    case round =>
      obtain ⟨k, ys, rfl, hk, HO, HW, HBR⟩ := hrel
      by_cases hkb : k < lb
      · obtain ⟨ad, hBad, hcell⟩ := Kd.at_int HNN.out.1 (k : Int) (by omega) (by rw [HLB.out]; omega)
        subst hBad
        rw [Int.toNat_natCast, rdN] at hcell
        have hcell' := (HBR.out.cell (World.block_lt_of_cell? w _ hcell)).trans hcell
        clear hcell
        have hyl := HO.out.1
        have hrow := blk_cell HW.out k
        have hfro := blk_frozen HW.out k
        have hyk : (ys.map (Value.int .u32)).toArray[k]? = some (.int .u32 ((D x.natAbs).getD k 0)) := by
          rw [List.getElem?_toArray, List.getElem?_map, List.getElem?_eq_getElem (by omega), ← HO.out.2.2 k (Nat.le_refl _), getD_lt (by omega)]; rfl
        rw [hyk] at hrow
        have HS := Lib.hid (HO.out.step (by omega))
        have hnext : ((wr.setCell ⟨w.heap.size, k, none⟩ (.int .u32 (bits .or .u32 ((D x.natAbs).getD k 0) ((D y.natAbs).getD k 0)))).heap[w.heap.size]?) = some (.cells ((ys.set k (bits .or .u32 ((D x.natAbs).getD k 0) ((D y.natAbs).getD k 0))).map (Value.int .u32)).toArray 107 (0, 0)) := by
          rw [blk_set HW.out k, nums_set]
        have HNX := Lib.hid hnext
        have HBN := Lib.hid (HBR.out.setCell (p := ⟨w.heap.size, k, none⟩) (Nat.le_refl _) (.int .u32 (bits .or .u32 ((D x.natAbs).getD k 0) ((D y.natAbs).getD k 0))))
        clear hnext hyk hyl HO HW HBR
        generalize (D x.natAbs).getD k 0 = u at *
        generalize (D y.natAbs).getD k 0 = v at *
        go_wp2
        go_roundw
        case rel => exact ⟨k + 1, _, by go_num, by omega, HS, HNX, HBN⟩
        case measure => simp [intOf]; omega
      · obtain rfl : lb = k := by omega
        have HC := Lib.hid (HF.out lb ys wr Hlb.out HO.out HW.out HBR.out)
        clear HO HW HBR
        go_wp2_with (go_at_call 115; refine HC.out.mono ?_; rintro e w2 ⟨rfl, hz2, hg2⟩; have HE := Lib.hid (show Puts w p ((x.natAbs ||| y.natAbs : Nat) : Int) _ w2 from ⟨rfl, hz2, hg2⟩); clear hz2 hg2)
        go_ret
        exact HE.out
  · have hmk := run_make_row' (P := Try.prog) 74 107 (.int .u32 0) 4 Try.underlying74 infoU rfl .i64 .i64 la (by omega) (by omega)
    have hla : la = max la lb := by omega
    have Hla := Lib.hid hla
    clear hla
    have hlm : lb ≤ la := by omega
    have HBEL := Lib.hid (show Below w.heap.size w ((w.alloc (.cells (madeCells #[Value.int .u32 0] la) 107)).drew) from (below_alloc w _).drew)
    have HBLK := Lib.hid (show ((w.alloc (.cells (madeCells #[Value.int .u32 0] la) 107)).drew).heap[w.heap.size]? = some (.cells ((List.replicate la (0 : Int)).map (Value.int .u32)).toArray 107 (0, 0)) by
      rw [show ((List.replicate la (0 : Int)).map (Value.int .u32)).toArray = madeCells #[Value.int .u32 0] la by rw [← made_list]]
      exact heap_alloc_new w _)
    have HLEN := Lib.hid (show ((D x.natAbs).map (Value.int .u32)).length = Nat.min la la by rw [List.length_map, HLA.out]; exact (Nat.min_eq_left (by omega)).symm)
    have HFIT := Lib.hid (show 0 + ((D x.natAbs).map (Value.int .u32)).length ≤ ((List.replicate la (0 : Int)).map (Value.int .u32)).length by rw [List.length_map, List.length_map, List.length_replicate, HLA.out]; omega)
    have HONE := Lib.hid (show ∀ v ∈ (D x.natAbs).map (Value.int .u32), v.oneCell' = true by intro v hv; obtain ⟨u, _, rfl⟩ := List.mem_map.1 hv; rfl)
    have HPOS := Lib.hid (show 0 < ((D x.natAbs).map (Value.int .u32)).length → ∃ ad, A = some ad ∧ ∀ j v, ((D x.natAbs).map (Value.int .u32))[j]? = some v → ((w.alloc (.cells (madeCells #[Value.int .u32 0] la) 107)).drew).cell? (ad.add j) = some v by
      intro hpos
      rw [List.length_map] at hpos
      have hC := HM.out.1
      obtain ⟨ad, had, _⟩ := Kd.at_int hC 0 (by omega) (by omega)
      subst had
      refine ⟨ad, rfl, fun j v hj => ?_⟩
      rw [List.getElem?_map] at hj
      have hjl : j < (D x.natAbs).length := by
        rcases Nat.lt_or_ge j (D x.natAbs).length with h | h
        · exact h
        · rw [List.getElem?_eq_none h] at hj; cases hj
      obtain ⟨ad', had', hc'⟩ := Kd.at_int hC (j : Int) (by omega) (by omega)
      cases had'
      rw [Int.toNat_natCast, rdN] at hc'
      rw [List.getElem?_eq_getElem hjl, Option.map_some] at hj
      cases hj
      rw [getD_lt hjl] at hc'
      exact (HBEL.out.cell (World.block_lt_of_cell? w _ hc')).trans hc')
    go_enter Try.func104, Try.ntmps104
    go_wp2
    go_region
    clear hmk
    go_wp2_with ((with_reducible refine gate_builtin (b := .copy) (xs := #[.tmp 22, .tmp 26]) rfl ?_); refine wpList_copy_splice rfl (.tmp 22) (.tmp 26) 74 74 rfl 107 Try.underlying74 sizeU (some ⟨w.heap.size, 0, none⟩) A la la la c rfl rfl w.heap.size 0 ((List.replicate la (0 : Int)).map (Value.int .u32)) 107 HBLK.out ((D x.natAbs).map (Value.int .u32)) HLEN.out (fun h_ => ⟨rfl, HPOS.out h_⟩) HFIT.out HONE.out w.heap.size w HBEL.out (Nat.le_refl _) ?_; clear HBLK HLEN HPOS HFIT HONE HBEL; intro w3 hblk hbel; have HB3 := Lib.hid hblk.out; have HBL := Lib.hid hbel; have j1' := (hbel.cell (p := ⟨s, 1, none⟩) hs).trans j1; clear hblk hbel)
    go_loopw [33] (fun i wr => ∃ (k : Nat) (ys : List Int), i = .int .i64 k ∧ k ≤ lb ∧ Hid (OrTo x.natAbs y.natAbs la k ys) ∧ Hid (wr.heap[w.heap.size]? = some (.cells (ys.map (Value.int .u32)).toArray 107 (0, 0))) ∧ Hid (Below w.heap.size w wr)) (fun i _ => lb - (intOf i).toNat)
    case atStart =>
      have HMA := HM.out
      refine ⟨0, D x.natAbs ++ List.replicate (la - (D x.natAbs).length) 0, rfl, by omega, Lib.hid ⟨by rw [List.length_append, List.length_replicate, HLA.out]; omega, fun j hj => by omega, fun j _ => append_zeros_getD _ _ _⟩, Lib.hid ?_, HBL⟩
      have := HB3.out
      rw [splice_list (by rw [HLA.out]; omega)] at this
      exact this
    case round =>
      obtain ⟨k, ys, rfl, hk, HO, HW, HBR⟩ := hrel
      by_cases hkb : k < lb
      · obtain ⟨ad, hBad, hcell⟩ := Kd.at_int HNN.out.1 (k : Int) (by omega) (by rw [HLB.out]; omega)
        subst hBad
        rw [Int.toNat_natCast, rdN] at hcell
        have hcell' := (HBR.out.cell (World.block_lt_of_cell? w _ hcell)).trans hcell
        clear hcell
        have hyl := HO.out.1
        have hrow := blk_cell HW.out k
        have hfro := blk_frozen HW.out k
        have hyk : (ys.map (Value.int .u32)).toArray[k]? = some (.int .u32 ((D x.natAbs).getD k 0)) := by
          rw [List.getElem?_toArray, List.getElem?_map, List.getElem?_eq_getElem (by omega), ← HO.out.2.2 k (Nat.le_refl _), getD_lt (by omega)]; rfl
        rw [hyk] at hrow
        have HS := Lib.hid (HO.out.step (by omega))
        have hnext : ((wr.setCell ⟨w.heap.size, k, none⟩ (.int .u32 (bits .or .u32 ((D x.natAbs).getD k 0) ((D y.natAbs).getD k 0)))).heap[w.heap.size]?) = some (.cells ((ys.set k (bits .or .u32 ((D x.natAbs).getD k 0) ((D y.natAbs).getD k 0))).map (Value.int .u32)).toArray 107 (0, 0)) := by
          rw [blk_set HW.out k, nums_set]
        have HNX := Lib.hid hnext
        have HBN := Lib.hid (HBR.out.setCell (p := ⟨w.heap.size, k, none⟩) (Nat.le_refl _) (.int .u32 (bits .or .u32 ((D x.natAbs).getD k 0) ((D y.natAbs).getD k 0))))
        clear hnext hyk hyl HO HW HBR
        generalize (D x.natAbs).getD k 0 = u at *
        generalize (D y.natAbs).getD k 0 = v at *
        go_wp2
        go_roundw
        case rel => exact ⟨k + 1, _, by go_num, by omega, HS, HNX, HBN⟩
        case measure => simp [intOf]; omega
      · obtain rfl : lb = k := by omega
        have HC := Lib.hid (HF.out la ys wr Hla.out HO.out HW.out HBR.out)
        clear HO HW HBR
        go_wp2_with (go_at_call 115; refine HC.out.mono ?_; rintro e w2 ⟨rfl, hz2, hg2⟩; have HE := Lib.hid (show Puts w p ((x.natAbs ||| y.natAbs : Nat) : Int) _ w2 from ⟨rfl, hz2, hg2⟩); clear hz2 hg2)
        go_ret
        exact HE.out
end Go.Proofs.Ytdjdnllnhonjkaa.Mf
end

section
/- Walks: the value of a whole number, as an integer. -/
set_option linter.unusedVariables false
set_option linter.unusedSimpArgs false
namespace Go.Proofs.Ytdjdnllnhonjkaa.Mg
open Go.RowKit Go.Proofs.YtdjdnllnhonjkaaW.PrintWords Go.Proofs.Ytdjdnllnhonjkaa.PW Go.Proofs.Ytdjdnllnhonjkaa.Pc Go.Proofs.Ytdjdnllnhonjkaa.Ma Go.Proofs.Ytdjdnllnhonjkaa.Mb Go.Proofs.Ytdjdnllnhonjkaa.Mc Go.Proofs.Ytdjdnllnhonjkaa.Md Go.Proofs.Ytdjdnllnhonjkaa.Me Go.Proofs.Ytdjdnllnhonjkaa.Mf Dg

/-- The value of limbs from place k on. -/
def hiv (l : List Int) (k : Nat) : Int := val 16777216 (l.drop k)

theorem hiv_nonneg {l : List Int} (h : Dig 16777216 l) (k : Nat) : 0 ≤ hiv l k := val_nonneg (h.drop k)
theorem hiv_blN {l : List Int} (h : Dig 16777216 l) (N : Nat) (hl : 24 * l.length ≤ N) (k : Nat) : bl (hiv l k).natAbs ≤ N := by
  apply bl_le
  have h1 := val_lt (by decide) (h.drop k)
  have h0 := hiv_nonneg h k
  have h2 : (16777216 : Nat) ^ (l.drop k).length ≤ 2 ^ N := by
    rw [show (16777216 : Nat) = 2 ^ 24 from rfl, ← Nat.pow_mul]
    exact Nat.pow_le_pow_right (by decide) (by rw [List.length_drop]; omega)
  have h3 : ((16777216 : Nat) : Int) ^ (l.drop k).length = ((16777216 ^ (l.drop k).length : Nat) : Int) := by simp
  unfold hiv at *
  rw [h3] at h1
  exact Nat.lt_of_lt_of_le (by omega) h2
theorem hiv_bl {l : List Int} (h : Dig 16777216 l) (hl : l.length ≤ 100) (k : Nat) : bl (hiv l k).natAbs ≤ 2400 := hiv_blN h 2400 (by omega) k
theorem hiv_step {l : List Int} (h : Dig 16777216 l) (k : Nat) : hiv l k = ((((hiv l (k + 1)) * 2 ^ 24).natAbs ||| (l.getD k 0).natAbs : Nat) : Int) := by
  have h0 := hiv_nonneg h (k + 1)
  have hd := h.all0 (by decide) k
  have e : hiv l k = l.getD k 0 + 16777216 * hiv l (k + 1) := val_drop' l k
  obtain ⟨a, ha⟩ := Int.eq_ofNat_of_zero_le h0
  obtain ⟨d, hd'⟩ := Int.eq_ofNat_of_zero_le hd.1
  have hdl : d < 16777216 := by have := hd.2; omega
  rw [e, ha, hd']
  have e2 : ((a : Int) * 2 ^ 24).natAbs = 2 ^ 24 * a := by
    have : ((a : Int) * 2 ^ 24) = ((2 ^ 24 * a : Nat) : Int) := by simp [Int.mul_comm]
    rw [this, Int.natAbs_natCast]
  rw [e2, Int.natAbs_natCast, ← Nat.two_pow_add_eq_or_of_lt (i := 24) hdl a]
  omega

/-- What was written is the block itself from which on all may turn. -/
theorem below_grownB {w w1 w2 : World} {g : Nat} (h : Below g w w1) (hg : g ≤ w1.heap.size) (k : w1.grownBy w2 (some g)) : Below g w w2 :=
  h.trans ⟨k.os, k.tape, k.output, k.size, fun i hi => k.block i (by omega) (by simp; omega)⟩
theorem below_then0 {w w1 w2 : World} (h : Below w.heap.size w w1) (k : Below w.heap.size w1 w2) : Below w.heap.size w w2 := h.trans k

theorem wsign (s v : Int) : (if s < 0 then -v else v) = if decide (s < 0) = true then -v else v := by
  by_cases h : s < 0 <;> simp [h]

set_option maxHeartbeats 1600000 in
theorem toBig {w : World} {s : Int} {A : Option Addr} {c : Nat} {l : List Int} (hC : (Kd.int .i64).C w A l.length l) (hd : Dig 16777216 l) (hl : l.length ≤ 100) :
    Calls Try.prog 62 #[.agg #[.int .i64 s, .slice A l.length c]] w (News w (if s < 0 then -(val 16777216 l) else val 16777216 l)) := by
  obtain ⟨W1, hW1⟩ : ∃ W1, W1 = w.alloc (.cells #[.int .i64 s, .slice A l.length c] 28) := ⟨_, rfl⟩
  obtain ⟨W2, hW2⟩ : ∃ W2, W2 = W1.alloc (.cells #[.bool false, .slice none 0 0] 76) := ⟨_, rfl⟩
  have hs1 : W1.heap.size = w.heap.size + 1 := by rw [hW1]; simp
  have hb1 : Below w.heap.size w W1 := by rw [hW1]; exact below_alloc w _
  have hb2 : Below W1.heap.size W1 W2 := by rw [hW2]; exact below_alloc W1 _
  have hb02 : Below w.heap.size w W2 := below_then hb1 hb2
  have hz2 : Z W2 W1.heap.size 0 := by rw [hW2]; exact Z.new W1
  have hbox : W1.heap[w.heap.size]? = some (.cells #[.int .i64 s, .slice A l.length c] 28 (0, 0)) := by rw [hW1]; exact heap_alloc_new w _
  have hbox2 := (hb2.block w.heap.size (by omega)).trans hbox
  -- what a round knows
  have hcell : ∀ wr : World, Below (w.heap.size + 1) W2 wr → (wr.cell? ⟨w.heap.size, 0, none⟩ = some (.int .i64 s) ∧ wr.cell? ⟨w.heap.size, 1, none⟩ = some (.slice A l.length c)) := by
    intro wr h
    have := (h.block w.heap.size (by omega)).trans hbox2
    exact ⟨blk_cell this 0, blk_cell this 1⟩
  have hlimb : ∀ (wr : World) (k : Nat), k < l.length → Below (w.heap.size + 1) W2 wr → ∃ ad, A = some ad ∧ wr.cell? (ad.add k) = some (.int .i64 (l.getD k 0)) := by
    intro wr k hk h
    obtain ⟨ad, hA, hc⟩ := Kd.at_int hC (k : Int) (by omega) (by omega)
    rw [Int.toNat_natCast, rdN] at hc
    have hlt := World.block_lt_of_cell? w _ hc
    exact ⟨ad, hA, ((h.mono (by omega)).cell hlt).trans ((hb02.cell hlt).trans hc)⟩
  have hW : W2 = (w.alloc (.cells #[.int .i64 s, .slice A l.length c] 28)).alloc (.cells #[.bool false, .slice none 0 0] 76) := by rw [hW2, hW1]
  rw [hs1] at hz2
  have HW := Lib.hid hW
  have HC := Lib.hid hcell
  have HL := Lib.hid hlimb
  have H02 := Lib.hid hb02
  have HZ2 := Lib.hid hz2
  have HD := Lib.hid hd
  have HBX := Lib.hid hbox2
  clear hW hW1 hW2 hcell hlimb hb02 hz2 hbox hbox2 hb1 hb2 hs1 hC hd
  clear W1
  -- one round: shifted, a limb put in
  have hsh : ∀ (wr : World) (k : Nat), Z wr (w.heap.size + 1) (hiv l (k + 1)) → Calls Try.prog 103 #[.pointer (some ⟨w.heap.size + 1, 0, none⟩), .pointer (some ⟨w.heap.size + 1, 0, none⟩), .int .u64 24] wr (Puts wr (w.heap.size + 1) (hiv l (k + 1) * 2 ^ 24)) := by
    intro wr k hz
    have := hiv_bl HD.out hl (k + 1)
    exact lsh (n := 24) hz.blk hz (by omega) (by omega)
  have hor : ∀ (wr : World) (k g : Nat), Z wr (w.heap.size + 1) (hiv l (k + 1) * 2 ^ 24) → Z wr g (l.getD k 0) → Calls Try.prog 104 #[.pointer (some ⟨w.heap.size + 1, 0, none⟩), .pointer (some ⟨w.heap.size + 1, 0, none⟩), .pointer (some ⟨g, 0, none⟩)] wr (Puts wr (w.heap.size + 1) (hiv l k)) := by
    intro wr k g hz hg
    have h1 := hiv_bl HD.out hl (k + 1)
    have hx := HD.out.all0 (by decide) k
    have h3 : bl (hiv l (k + 1) * 2 ^ 24).natAbs ≤ 536870912 := by
      rw [Int.natAbs_mul, show ((2 : Int) ^ 24).natAbs = 2 ^ 24 from rfl]
      have := bl_shift_le (hiv l (k + 1)).natAbs 24
      omega
    have h4 : bl (l.getD k 0).natAbs ≤ 536870912 := Nat.le_trans (bl_le (k := 24) (by omega)) (by omega)
    rw [hiv_step HD.out k]
    exact orr hz.blk hz hg h3 h4
  have hnew : ∀ (wr : World) (k : Nat), Calls Try.prog 67 #[.int .i64 (l.getD k 0)] wr (News wr (l.getD k 0)) := by
    intro wr k
    have hx := HD.out.all0 (by decide) k
    exact newInt (by omega) (by omega)
  have hfin : ∀ wr, Z wr (w.heap.size + 1) (hiv l 0) → Calls Try.prog 105 #[.pointer (some ⟨w.heap.size + 1, 0, none⟩), .pointer (some ⟨w.heap.size + 1, 0, none⟩)] wr (Puts wr (w.heap.size + 1) (-(hiv l 0))) := by
    intro wr hz
    have := hiv_bl HD.out hl 0
    exact neg hz.blk hz (by omega)
  have hout : ∀ (wr : World) (z : Int), Below (w.heap.size + 1) W2 wr → Z wr (w.heap.size + 1) z → News w z (.returned (.pointer (some ⟨w.heap.size + 1, 0, none⟩))) wr := by
    intro wr z hb hz
    exact ⟨_, rfl, hz, by omega, below_then0 H02.out (hb.mono (by omega))⟩
  have HSH := Lib.hid hsh
  have HOR := Lib.hid hor
  have HNW := Lib.hid hnew
  have HFN := Lib.hid hfin
  have HOUT := Lib.hid hout
  clear hsh hor hnew hfin hout
  have hv0 : hiv l 0 = val 16777216 l := by unfold hiv; rw [List.drop_zero]
  rw [← hv0]
  clear hv0
  by_cases hneg : s < 0
  all_goals
    go_enter Try.func62, Try.ntmps62
    go_wp2_with fail
    go_loopw [4] (fun i wr => ∃ k : Nat, i = .int .i64 ((k : Int) - 1) ∧ k ≤ l.length ∧ Hid (Z wr (w.heap.size + 1) (hiv l k)) ∧ Hid (Below (w.heap.size + 1) W2 wr)) (fun i _ => (intOf i + 1).toNat)
    case atStart =>
      refine ⟨l.length, rfl, Nat.le_refl _, Lib.hid ?_, Lib.hid ?_⟩
      · rw [← HW.out, show hiv l l.length = 0 by unfold hiv; rw [List.drop_length]; rfl]; exact HZ2.out
      · rw [← HW.out]; exact Below.refl _ _
    case round =>
      obtain ⟨k, rfl, hk, HZ, HB⟩ := hrel
      cases k with
      | zero =>
        obtain ⟨c0, c1⟩ := HC.out wr HB.out
        have HO := Lib.hid (HOUT.out wr _ HB.out HZ.out)
        have HN := Lib.hid (HFN.out wr HZ.out)
        have hlt : ((0 : Nat) : Int) - 1 = -1 := rfl
        rw [hlt]
        clear hlt
        go_wp2_with (first | (go_at_call 105; refine HN.out.mono ?_; rintro e w2 ⟨rfl, hz2, hg2⟩; have HO := Lib.hid (HOUT.out w2 _ (below_grownB HB.out (Nat.le_of_lt HZ.out.lt) hg2) hz2); clear hz2 hg2))
        go_ret
        exact HO.out
      | succ k =>
        have hlt : ((k + 1 : Nat) : Int) - 1 = (k : Int) := by omega
        rw [hlt]
        clear hlt
        go_wp2_with fail
        refine (HSH.out wr k HZ.out).mono ?_
        rintro e w2 ⟨rfl, hz2, hg2⟩
        have hb2 := below_grownB HB.out (Nat.le_of_lt HZ.out.lt) hg2
        obtain ⟨c0, c1⟩ := HC.out w2 hb2
        obtain ⟨ad, hA, hl2⟩ := HL.out w2 k (by omega) hb2
        subst hA
        have HZ3 := Lib.hid hz2
        have HB3 := Lib.hid hb2
        clear hz2 hg2 hb2 HZ HB
        go_wp2_with fail
        refine (HNW.out w2 k).mono ?_
        rintro e w3 ⟨g, rfl, hz3, hg3, hb3⟩
        have HZ4 := Lib.hid (HZ3.out.below hb3)
        have HB4 := Lib.hid (HB3.out.trans (hb3.mono (by have := HZ3.out.lt; omega)))
        have HZ5 := Lib.hid hz3
        clear hz3 hg3 hb3 HZ3 HB3 c0 c1 hl2
        go_wp2_with fail
        refine (HOR.out w3 k g HZ4.out HZ5.out).mono ?_
        rintro e w4 ⟨rfl, hz6, hg6⟩
        have HZ6 := Lib.hid hz6
        have HB6 := Lib.hid (below_grownB HB4.out (Nat.le_of_lt HZ4.out.lt) hg6)
        clear hz6 hg6
        go_wp2
        go_roundw
        case rel => exact ⟨k, rfl, by omega, HZ6, HB6⟩
        case measure => (simp [intOf]) <;> omega
end Go.Proofs.Ytdjdnllnhonjkaa.Mg
end

section
/- Walks: words on whole numbers that only tell a number. -/
set_option linter.unusedVariables false
set_option linter.unusedSimpArgs false
namespace Go.Proofs.Ytdjdnllnhonjkaa.Mh
open Go.RowKit Go.Proofs.YtdjdnllnhonjkaaW.PrintWords Go.Proofs.Ytdjdnllnhonjkaa.PW Go.Proofs.Ytdjdnllnhonjkaa.Pc Go.Proofs.Ytdjdnllnhonjkaa.Pb Go.Proofs.Ytdjdnllnhonjkaa.Pw Go.Proofs.Ytdjdnllnhonjkaa.Ma Go.Proofs.Ytdjdnllnhonjkaa.Mb Go.Proofs.Ytdjdnllnhonjkaa.Mc Go.Proofs.Ytdjdnllnhonjkaa.Md Go.Proofs.Ytdjdnllnhonjkaa.Me Go.Proofs.Ytdjdnllnhonjkaa.Mg Dg

theorem cIs {w : World} {s : Int} {A : Option Addr} {c : Nat} {l : List Int} (hC : (Kd.int .i64).C w A l.length l) (hc : l.length ≤ c) (hm : l.length ≤ 9223372036854775807) :
    Calls Try.prog 49 #[.agg #[.int .i64 s, .slice A l.length c]] w fun e w' => e = .returned (.bool (isW s l)) ∧ Below w.heap.size w w' := by
  obtain ⟨k, hk⟩ := (iIs s l hm).rounds
  exact impl_IsWhole.calls k s A c l _ w hC hc hk

theorem cBig {w : World} {s : Int} {A : Option Addr} {c : Nat} {l : List Int} (hC : (Kd.int .i64).C w A l.length l) (h : isW s l = true) :
    Calls Try.prog 62 #[.agg #[.int .i64 s, .slice A l.length c]] w (News w (wv s l)) := by
  obtain ⟨hd, hl, _, _⟩ := isW_spec h
  exact toBig hC hd hl

theorem C_at {w w1 : World} {A : Option Addr} {l : List Int} (hC : (Kd.int .i64).C w A l.length l) (hb : Below w.heap.size w w1) : (Kd.int .i64).C w1 A l.length l := Kd.C_below hC hb
end Go.Proofs.Ytdjdnllnhonjkaa.Mh
end
