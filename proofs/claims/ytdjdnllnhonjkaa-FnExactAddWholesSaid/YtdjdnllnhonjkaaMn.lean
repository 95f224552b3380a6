/- Walks: an integer as a whole number. -/
import Derived.Test.YtdjdnllnhonjkaaMl
set_option linter.unusedVariables false
set_option linter.unusedSimpArgs false
namespace Go.Proofs.Ytdjdnllnhonjkaa.Mn
open Go.RowKit Go.Proofs.YtdjdnllnhonjkaaW.PrintWords Go.Proofs.YtdjdnllnhonjkaaW.PrintLast Go.Proofs.YtdjdnllnhonjkaaW.PrintMore Go.Proofs.Ytdjdnllnhonjkaa.PW Go.Proofs.Ytdjdnllnhonjkaa.Pc Go.Proofs.Ytdjdnllnhonjkaa.Ma Go.Proofs.Ytdjdnllnhonjkaa.Mb Go.Proofs.Ytdjdnllnhonjkaa.Mc Go.Proofs.Ytdjdnllnhonjkaa.Md Go.Proofs.Ytdjdnllnhonjkaa.Me Go.Proofs.Ytdjdnllnhonjkaa.Mi Go.Proofs.Ytdjdnllnhonjkaa.Mj Go.Proofs.Ytdjdnllnhonjkaa.Mk Go.Proofs.Ytdjdnllnhonjkaa.Ml Dg
open Pm (sgn)

theorem infoI : (Try.prog.info? 2).map (fun i => (i.zero, i.size, i.bytes)) = some (some (.int .i64 0), 1, 8) := by kernel_rfl
theorem sizeW : (Try.prog.info? 28).map (·.size) = some 2 := by kernel_rfl

/-- A whole number that is handed back, beside a bool. -/
def GivesW (w : World) (s : Int) (l : List Int) (b : Bool) (e : Ending) (w' : World) : Prop :=
  ∃ u, e = .returned (.tuple #[.agg #[.int .i64 s, u], .bool b]) ∧ Kd.R (Kd.int .i64) 2 w' w.heap.size (fun _ => True) u l ∧ Below w.heap.size w w'

set_option maxHeartbeats 1600000 in
theorem fromBig_no {w : World} {q : Nat} {z : Int} (hz : Z w q z) (h1 : bl z.natAbs ≤ 268435456) (h2 : ¬ bl z.natAbs ≤ 2400) :
    Calls Try.prog 92 #[.pointer (some ⟨q, 0, none⟩)] w (GivesW w 0 [] false) := by
  have hB := Me.bitLen (hz.below (below_alloc w (.cells #[.int .i64 0, .slice none 0 0] 28))) (by omega)
  have HB := Lib.hid hB
  have hgt : (2400 : Int) < ((bl z.natAbs : Nat) : Int) := by omega
  clear hB hz h1 h2
  generalize bl z.natAbs = b at *
  go_enter Try.func92, Try.ntmps92
  go_wp2_with fail
  refine HB.out.mono ?_
  rintro e w1 ⟨rfl, n, rfl⟩
  go_wp2
  have hbox : ((w.alloc (.cells #[.int .i64 0, .slice none 0 0] 28)).drewN n).heap[w.heap.size]? = some (.cells #[.int .i64 0, .slice none 0 0] 28 (0, 0)) := ((Me.below_drawn n).block w.heap.size (by simp)).trans (heap_alloc_new w _)
  have hb : Below w.heap.size w ((w.alloc (.cells #[.int .i64 0, .slice none 0 0] 28)).drewN n) := below_then (below_alloc w _) (Me.below_drawn n)
  exact bodyPost_ret (results_ct rfl _ _ w.heap.size 28 #[.int .i64 0, .slice none 0 0] (0, 0) _ rfl (blk_set (blk_set hbox 0 _) 1 _) Try.underlying28 rfl sizeW) rfl ⟨_, rfl, Kd.R_nil _ _ _ _ _, (hb.setCell (Nat.le_refl _) _).setCell (Nat.le_refl _) _⟩

/-- Block p is an integer whose digits lie in no row of v's. -/
def ZF (w : World) (p : Nat) (z : Int) (v : Value) : Prop :=
  ∃ A c, w.heap[p]? = some (.cells #[.bool (decide (z < 0)), .slice A (D z.natAbs).length c] 76 (0, 0)) ∧ Mg w A c (D z.natAbs) ∧ ∀ ad, A = some ad → 0 < (D z.natAbs).length → some ad.block ≠ v.ownBlock

section
variable {w w1 : World} {p : Nat} {n : Int} {v v1 : Value}
theorem ZF.zz (h : ZF w p n v) : Z w p n := by
  obtain ⟨A, c, hb, hm, _⟩ := h
  exact ⟨A, c, hb, hm⟩
theorem ZF.of (h : Z w p n) : ZF w p n (.slice none 0 0) := by
  obtain ⟨A, c, hb, hm⟩ := h
  exact ⟨A, c, hb, hm, fun ad _ _ e => by simp [Value.ownBlock] at e⟩
theorem ZF.below (h : ZF w p n v) (hb : Below w.heap.size w w1) : ZF w1 p n v := by
  obtain ⟨A, c, h1, hm, hv⟩ := h
  exact ⟨A, c, (hb.block p (Array.getElem?_eq_some_iff.1 h1).1).trans h1, hm.below hb, hv⟩
theorem ZF.grown {q : Nat} (h : ZF w p n v) (hg : w.grownBy w1 (some q)) (hq : Blk w q) (hne : p ≠ q) : ZF w1 p n v := by
  obtain ⟨A, c, hb, hm, hv⟩ := h
  exact ⟨A, c, (hg.block p (Array.getElem?_eq_some_iff.1 hb).1 (by simpa using hne)).trans hb, hm.grown hg hq, hv⟩

theorem add_block (a : Addr) (k : Nat) : (a.add k).block = a.block := by
  unfold Addr.add
  split <;> rfl

theorem Mg.kept_at {A : Option Addr} {c : Nat} {xs : List Int} (h : Mg w A c xs) (hk : ∀ ad, A = some ad → 0 < xs.length → w1.heap[ad.block]? = w.heap[ad.block]?) : Mg w1 A c xs := by
  refine ⟨?_, h.2⟩
  obtain ⟨h1, h2, h3⟩ := h.1
  refine ⟨h1, h2, fun hn => ?_⟩
  obtain ⟨ad, hA, hc⟩ := h3 hn
  refine ⟨ad, hA, fun j p hp => ?_⟩
  obtain ⟨cs, hs, hR, hcell⟩ := hc j p hp
  refine ⟨cs, hs, hR, fun i u hu => ?_⟩
  rw [← hcell i u hu]
  exact World.cell?_of_block (w := w) (w' := w1) (a := ad.add (j * (Kd.int IntKind.u32).sz + i)) (by rw [add_block]; exact hk ad hA hn)

theorem Mg.lt {A : Option Addr} {c : Nat} {xs : List Int} (h : Mg w A c xs) (ad : Addr) (hA : A = some ad) (hn : 0 < xs.length) : ad.block < w.heap.size := by
  subst hA
  exact Kd.C_lt h.1 hn (by decide)

/-- A limb was appended to v. -/
theorem ZF.after (h : ZF w p n v) (hpv : some p ≠ v.ownBlock) (hg : w.grownBy w1 v.ownBlock) (hat : v1.ownBlock = v.ownBlock ∨ ∃ b, v1.ownBlock = some b ∧ w.heap.size ≤ b) : ZF w1 p n v1 := by
  obtain ⟨A, c, hb, hm, hv⟩ := h
  refine ⟨A, c, (hg.block p (Array.getElem?_eq_some_iff.1 hb).1 hpv).trans hb, Mg.kept_at hm fun ad hA hn => hg.block _ (Mn.Mg.lt hm ad hA hn) (hv ad hA hn), fun ad hA hn => ?_⟩
  rcases hat with e | ⟨b, e, hle⟩
  · rw [e]; exact hv ad hA hn
  · rw [e]
    intro e2
    injection e2 with e2
    have := Mn.Mg.lt hm ad hA hn
    omega

/-- A store into another block that is no row of digits: one of the type of whole numbers. -/
theorem ZF.store {gw : Nat} {cs : Array Value} (h : ZF w p n v) (hw : w.heap[gw]? = some (.cells cs 28 (0, 0))) (hc : cs.size = 2) (h0 : ∀ x, cs[0]? ≠ some (.int .u32 x)) (h1 : ∀ x, cs[1]? ≠ some (.int .u32 x)) (i : Nat) (u : Value) : ZF (w.setCell ⟨gw, i, none⟩ u) p n v := by
  obtain ⟨A, c, hb, hm, hv⟩ := h
  have hne : p ≠ gw := by
    rintro rfl
    rw [hb] at hw
    injection hw with hw
    injection hw with _ hw
    exact absurd hw (by decide)
  refine ⟨A, c, (Below.heap_setCell _ _ _ _ hne).trans hb, Mg.kept_at hm fun ad hA hn => Below.heap_setCell _ _ _ _ ?_, hv⟩
  intro e
  have e : ad.block = gw := e
  obtain ⟨ad', hA', hc'⟩ := hm.1.2.2 hn
  rw [hA] at hA'
  injection hA' with hA'
  subst hA'
  obtain ⟨cs', hs, hR, hcell⟩ := hc' 0 _ (List.getElem?_eq_getElem hn)
  have hR' : cs' = [.int .u32 (D n.natAbs)[0]] := hR
  subst hR'
  have h4 := hcell 0 _ rfl
  rw [← e] at hw
  simp only [World.cell?, add_block, hw] at h4
  split at h4
  · cases h4
  · generalize (ad.add (0 * (Kd.int IntKind.u32).sz + 0)).off = o at h4
    match o, h4 with
    | 0, h4 => exact h0 _ h4
    | 1, h4 => exact h1 _ h4
    | n + 2, h4 =>
      rw [Array.getElem?_eq_none (by omega)] at h4
      cases h4
end

/-- A row of digits that is handed back and that lies in no elder block. -/
def GivesMgF (N : Nat) (w : World) (n : Nat) (e : Ending) (w' : World) : Prop :=
  ∃ A c, e = .returned (.slice A (D n).length c) ∧ Mg w' A c (D n) ∧ (∀ ad, A = some ad → 0 < (D n).length → N ≤ ad.block) ∧ Below w.heap.size w w'

/-- An integer that is put, with digits that lie in no elder block. -/
def PutsF (N : Nat) (w : World) (p : Nat) (z : Int) (e : Ending) (w' : World) : Prop :=
  Puts w p z e w' ∧ ∀ A n c, w'.cell? ⟨p, 1, none⟩ = some (.slice A n c) → ∀ ad, A = some ad → 0 < n → N ≤ ad.block

theorem fresh_of {w w' : World} {N : Nat} {e : Ending} {v : Value} {n : Nat} {b : Nat} {t : Nat} (he : e = .returned v) (h : Kd.V (Kd.int .u32) t w' b (fun k => N ≤ k) v (D n)) (hb : Below w.heap.size w w') : GivesMgF N w n e w' := by
  obtain ⟨A, c, rfl, hm⟩ := Mg.of_V h
  exact ⟨A, c, he, hm, fun ad hA hn => Kd.F_in (Kd.V_F h) hA hn (by decide), hb⟩

theorem V_of_fresh {w : World} {N : Nat} {A : Option Addr} {c : Nat} {xs : List Int} (h : Mg w A c xs) (hA : ∀ ad, A = some ad → 0 < xs.length → N ≤ ad.block) : Kd.V (Kd.int .u32) 107 w w.heap.size (fun k => N ≤ k) (.slice A xs.length c) xs := by
  refine Kd.V_mk h.2 ?_
  intro W' hW
  exact (Mn.Mg.kept_at (w1 := W') h fun ad hA' hn => hW _ (hA ad hA' hn) (Mn.Mg.lt h ad hA' hn)).1

theorem cRightF {w : World} {A : Option Addr} {c a n : Nat} (ha : Mg w A c (D a)) (h1 : bl a ≤ 536870912) (h2 : n ≤ 536870912) :
    Calls Try.prog 138 #[.slice A (D a).length c, .int .u64 n] w (GivesMgF w.heap.size w (a / 2 ^ n)) := by
  obtain ⟨k, hk⟩ := (Po.right a n h1 h2).rounds
  refine (impl_magRight.calls k A c _ _ _ w ha.1 ha.2 hk).mono ?_
  rintro e w' ⟨v, he, hv, hbl⟩
  exact fresh_of he hv hbl

theorem cTrimF {w : World} {N : Nat} {A : Option Addr} {c n : Nat} (h : Mg w A c (D n)) (hA : ∀ ad, A = some ad → 0 < (D n).length → N ≤ ad.block) (hN : N ≤ w.heap.size) (hl : bl n ≤ 1099511627776) :
    Calls Try.prog 114 #[.slice A (D n).length c] w (GivesMgF N w n) := by
  have hl2 := D_len n
  obtain ⟨k, hk⟩ := (Pm.trim _ (D n) rfl (D_dig n) (by omega)).rounds
  rw [D_val, Int.toNat_natCast] at hk
  refine (impl_magTrim.calls k (fun k => N ≤ k) A c (D n) _ w (V_of_fresh h hA) hk).mono ?_
  rintro e w' ⟨v, he, hv, hb⟩
  exact fresh_of he (Kd.V_mono hv (fun k hk => hk.elim id (fun h => Nat.le_trans hN h))) hb

set_option maxHeartbeats 400000 in
theorem putF {w W : World} {p n N : Nat} {A : Option Addr} {c : Nat} (hp : Blk w p) (hb : Below w.heap.size w W) (hN : N ≤ w.heap.size) (hm : Mg W A c (D n)) (hA : ∀ ad, A = some ad → 0 < (D n).length → N ≤ ad.block) (hl : bl n ≤ 1099511627776) :
    Calls Try.prog 115 #[.pointer (some ⟨p, 0, none⟩), .bool false, .slice A (D n).length c] W (PutsF N w p (n : Int)) := by
  have hT := cTrimF hm hA (Nat.le_trans hN hb.size) hl
  obtain ⟨b, B, m, d, hbx⟩ := hp
  have hlt : p < w.heap.size := (Array.getElem?_eq_some_iff.1 hbx).1
  have HB := Lib.hid hbx
  have HT := Lib.hid hT
  have HBW := Lib.hid hb
  clear hT hbx hm hA hl hb
  have hE : ∀ w1 : World, Below w.heap.size w w1 → (w1.cell? ⟨p, 0, none⟩ = some (.bool b) ∧ w1.cell? ⟨p, 1, none⟩ = some (.slice B m d) ∧ w1.frozen? ⟨p, 0, none⟩ = false ∧ w1.frozen? ⟨p, 1, none⟩ = false) := fun w1 h => by
    have h1 := (h.block p hlt).trans HB.out
    exact ⟨blk_cell h1 0, blk_cell h1 1, blk_frozen h1 0, blk_frozen h1 1⟩
  have HE := Lib.hid hE
  clear hE
  have hgoal : ∀ (w1 : World) (A' : Option Addr) (c' : Nat), Below w.heap.size w w1 → Mg w1 A' c' (D n) → (∀ ad, A' = some ad → 0 < (D n).length → N ≤ ad.block) → PutsF N w p (n : Int) (.returned (.pointer (some ⟨p, 0, none⟩))) ((w1.setCell ⟨p, 1, none⟩ (.slice A' (D n).length c')).setCell ⟨p, 0, none⟩ (.bool false)) := by
    intro w1 A' c' hbl hmg hA'
    have h1 := puts_of (z := (n : Int)) (A := A') (c := c') (neg := false) HB.out hbl (by simpa using hmg) (by simp)
    refine ⟨h1, ?_⟩
    have h2 := blk_set (blk_set ((hbl.block p hlt).trans HB.out) 1 (.slice A' (D n).length c')) 0 (.bool false)
    have h3 := blk_cell h2 1
    intro A2 n2 c2 he ad hA2 hn
    rw [h3] at he
    injection he with he
    simp at he
    obtain ⟨rfl, rfl, rfl⟩ := he
    exact hA' ad hA2 hn
  have HG := Lib.hid hgoal
  clear hgoal
  go_enter Try.func115, Try.ntmps115
  go_wp2_with fail
  refine HT.out.mono ?_
  rintro e w1 ⟨A', c', rfl, hmg, hA', hbl⟩
  obtain ⟨k0, k1, f0, f1⟩ := HE.out w1 (below_then HBW.out hbl)
  have h2 := Lib.hid (HG.out w1 A' c' (below_then HBW.out hbl) hmg hA')
  clear hmg hbl hA' HB HBW
  go_wp2
  go_ret
  exact h2.out

set_option maxHeartbeats 800000 in
theorem rshF {w : World} {p m n : Nat} (hz : Z w p (m : Int)) (h1 : bl m ≤ 268435456) (h2 : n ≤ 268435456) :
    Calls Try.prog 127 #[.pointer (some ⟨p, 0, none⟩), .pointer (some ⟨p, 0, none⟩), .int .u64 n] w (PutsF w.heap.size w p ((m / 2 ^ n : Nat) : Int)) := by
  have hp := hz.blk
  obtain ⟨A, c, k0, k1, hm, hq⟩ := Z.open hz
  rw [Int.natAbs_natCast] at k1 hm
  rw [show decide ((m : Int) < 0) = false by simp] at k0
  have b2 := bl_mono (Nat.div_le_self m (2 ^ n))
  have hR := cRightF hm (n := n) (by omega) (by omega)
  have hP := fun (w1 : World) (A' : Option Addr) (c' : Nat) h1 h2 h3 => putF (W := w1) (A := A') (c := c') (n := m / 2 ^ n) hp h1 (Nat.le_refl _) h2 h3 (by omega)
  have HR := Lib.hid hR
  have HP := Lib.hid hP
  clear hR hP b2 h1 h2 hm hp hz
  go_enter Try.func127, Try.ntmps127
  go_wp2_with fail
  refine HR.out.mono ?_
  rintro e w1 ⟨A1, c1, rfl, hm1, hA1, hb1⟩
  have HP1 := Lib.hid (HP.out w1 A1 c1 hb1 hm1 hA1)
  clear hm1 hb1 hA1
  go_wp2_with fail
  refine HP1.out.mono ?_
  rintro e w4 hz2
  have HE := Lib.hid hz2
  obtain ⟨⟨rfl, hz3, hg3⟩, h4⟩ := hz2
  clear hz3 hg3 h4
  go_wp2
  go_ret
  exact HE.out

/-- What a round of the loop knows: the whole number so far, what is left, and the mask. -/
def St (w wr : World) (gw gr gm : Nat) (s : Int) (m k : Nat) (v : Value) (pre : List Int) : Prop :=
  wr.heap[gw]? = some (.cells #[.int .i64 s, v] 28 (0, 0)) ∧ Kd.R (Kd.int .i64) 2 wr w.heap.size (fun _ => True) v pre ∧ ZF wr gr (k : Int) v ∧ ZF wr gm 16777215 v ∧ Below w.heap.size w wr ∧ pre ++ L k = L m

section
variable {w wr w1 : World} {gw gr gm m k : Nat} {s : Int} {v v1 : Value} {pre : List Int}

theorem St.cell (h : St w wr gw gr gm s m k v pre) : wr.cell? ⟨gw, 1, none⟩ = some v := blk_cell h.1 1
theorem St.lt (h : St w wr gw gr gm s m k v pre) : gw < wr.heap.size := by
  have := h.1
  rw [Array.getElem?_eq_some_iff] at this
  exact this.1
theorem St.below (h : St w wr gw gr gm s m k v pre) (hb : Below wr.heap.size wr w1) : St w w1 gw gr gm s m k v pre :=
  ⟨(hb.block gw h.lt).trans h.1, Kd.R_below h.2.1 hb, h.2.2.1.below hb, h.2.2.2.1.below hb, below_then h.2.2.2.2.1 hb, h.2.2.2.2.2⟩
theorem ne_types {g p : Nat} {cs : Array Value} {t : TypeId} (h : wr.heap[g]? = some (.cells cs t (0, 0))) (hp : Blk wr p) (ht : t ≠ 76) : g ≠ p := by
  rintro rfl
  obtain ⟨b, A, n, c, hc⟩ := hp
  rw [h] at hc
  injection hc with hc
  injection hc with _ hc
  exact ht hc
/-- An integer of its own is written. -/
theorem St.other {p : Nat} (h : St w wr gw gr gm s m k v pre) (hp : Blk wr p) (h1 : gr ≠ p) (h2 : gm ≠ p) (hN : w.heap.size ≤ p) (hg : wr.grownBy w1 (some p)) : St w w1 gw gr gm s m k v pre := by
  refine ⟨(hg.block gw h.lt (by have := ne_types h.1 hp (by decide); simpa using this)).trans h.1, ?_, h.2.2.1.grown hg hp h1, h.2.2.2.1.grown hg hp h2, below_grown h.2.2.2.2.1 hg hN, h.2.2.2.2.2⟩
  obtain ⟨b, A, n, c, hc⟩ := hp
  exact Kd.R_mono (Kd.R_grown (Kd.R_types h.2.1 hc (by decide)) hg (fun k hk => by have := hk.2; simpa using this)) (fun _ hk => hk.1)
/-- What is left is written anew. -/
theorem St.rest {k' : Nat} {e : Ending} (h : St w wr gw gr gm s m k v pre) (hp : PutsF wr.heap.size wr gr (k' : Int) e w1) (hne : gm ≠ gr) (hgr : w.heap.size ≤ gr) (he : pre ++ L k' = L m) : St w w1 gw gr gm s m k' v pre := by
  obtain ⟨⟨_, hz, hg⟩, hf⟩ := hp
  have hb := h.2.2.1.zz.blk
  refine ⟨(hg.block gw h.lt (by have := ne_types h.1 hb (by decide); simpa using this)).trans h.1, ?_, ?_, h.2.2.2.1.grown hg hb hne, below_grown h.2.2.2.2.1 hg hgr, he⟩
  · obtain ⟨b, A, n, c, hc⟩ := hb
    exact Kd.R_mono (Kd.R_grown (Kd.R_types h.2.1 hc (by decide)) hg (fun k hk => by have := hk.2; simpa using this)) (fun _ hk => hk.1)
  · obtain ⟨A, c, hzb, hm⟩ := hz
    refine ⟨A, c, hzb, hm, fun ad hA hn ho => ?_⟩
    have h1 := hf _ _ _ (blk_cell hzb 1) ad hA hn
    have h2 := Kd.R_lt h.2.1 _ ho.symm
    omega
/-- A limb is appended and stored. -/
theorem St.put {wr1 : World} {p : Int} {k' : Nat} (h : St w wr gw gr gm s m k v pre) (ho : Kd.R (Kd.int .i64) 2 wr1 w.heap.size (fun _ => True) v1 (pre ++ [p])) (hg : wr.grownBy wr1 v.ownBlock) (hat : v1.ownBlock = v.ownBlock ∨ ∃ b, v1.ownBlock = some b ∧ wr.heap.size ≤ b) (hb : Below w.heap.size w wr1) (hgw : w.heap.size ≤ gw) :
    wr1.frozen? ⟨gw, 1, none⟩ = false ∧ (wr1.setCell ⟨gw, 1, none⟩ v1).heap[gw]? = some (.cells #[.int .i64 s, v1] 28 (0, 0)) ∧ Kd.R (Kd.int .i64) 2 (wr1.setCell ⟨gw, 1, none⟩ v1) w.heap.size (fun _ => True) v1 (pre ++ [p]) ∧ ZF (wr1.setCell ⟨gw, 1, none⟩ v1) gr (k : Int) v1 ∧ ZF (wr1.setCell ⟨gw, 1, none⟩ v1) gm 16777215 v1 ∧ Below w.heap.size w (wr1.setCell ⟨gw, 1, none⟩ v1) := by
  have hgw1 : wr1.heap[gw]? = some (.cells #[.int .i64 s, v] 28 (0, 0)) := (hg.block gw h.lt (Kd.R_ne h.2.1 h.1 (by decide))).trans h.1
  obtain ⟨A, c, hv⟩ := Kd.R_slice h.2.1
  refine ⟨blk_frozen hgw1 1, blk_set hgw1 1 v1, Kd.R_set ho hgw1 (by decide) 1 v1, ?_, ?_, hb.setCell hgw _⟩
  · obtain ⟨b, B, n, d, hc⟩ := h.2.2.1.zz.blk
    exact (h.2.2.1.after (Kd.R_ne h.2.1 hc (by decide)) hg hat).store hgw1 rfl (by simp) (by subst hv; simp) 1 v1
  · obtain ⟨b, B, n, d, hc⟩ := h.2.2.2.1.zz.blk
    exact (h.2.2.2.1.after (Kd.R_ne h.2.1 hc (by decide)) hg hat).store hgw1 rfl (by simp) (by subst hv; simp) 1 v1

/-- The same, beside the result's cells. -/
def Sr (w wr : World) (gw gr gm : Nat) (s : Int) (m k : Nat) (v : Value) (pre : List Int) : Prop :=
  St w wr gw gr gm s m k v pre ∧ wr.heap[w.heap.size]? = some (.cells #[.int .i64 0, .slice none 0 0] 28 (0, 0))

theorem Sr.lt (h : Sr w wr gw gr gm s m k v pre) : w.heap.size < wr.heap.size := (Array.getElem?_eq_some_iff.1 h.2).1
theorem Sr.below (h : Sr w wr gw gr gm s m k v pre) (hb : Below wr.heap.size wr w1) : Sr w w1 gw gr gm s m k v pre :=
  ⟨h.1.below hb, (hb.block _ h.lt).trans h.2⟩
theorem Sr.other {p : Nat} (h : Sr w wr gw gr gm s m k v pre) (hp : Blk wr p) (h1 : gr ≠ p) (h2 : gm ≠ p) (hN : w.heap.size < p) (hg : wr.grownBy w1 (some p)) : Sr w w1 gw gr gm s m k v pre :=
  ⟨h.1.other hp h1 h2 (by omega) hg, (hg.block _ h.lt (by simp; omega)).trans h.2⟩
theorem Sr.rest {k' : Nat} {e : Ending} (h : Sr w wr gw gr gm s m k v pre) (hp : PutsF wr.heap.size wr gr (k' : Int) e w1) (hne : gm ≠ gr) (hgr : w.heap.size < gr) (he : pre ++ L k' = L m) : Sr w w1 gw gr gm s m k' v pre :=
  ⟨h.1.rest hp hne (by omega) he, (hp.1.2.2.block _ h.lt (by simp; omega)).trans h.2⟩
/-- The last digits stored, before what is left is shifted. -/
def Sm (w wr : World) (gw gr gm : Nat) (s : Int) (k : Nat) (v : Value) (pre : List Int) : Prop :=
  wr.heap[gw]? = some (.cells #[.int .i64 s, v] 28 (0, 0)) ∧ Kd.R (Kd.int .i64) 2 wr w.heap.size (fun _ => True) v pre ∧ ZF wr gr (k : Int) v ∧ ZF wr gm 16777215 v ∧ Below w.heap.size w wr ∧ wr.heap[w.heap.size]? = some (.cells #[.int .i64 0, .slice none 0 0] 28 (0, 0))
theorem Sr.put {wr1 : World} {p : Int} (h : Sr w wr gw gr gm s m k v pre) (ho : Kd.R (Kd.int .i64) 2 wr1 w.heap.size (fun _ => True) v1 (pre ++ [p])) (hg : wr.grownBy wr1 v.ownBlock) (hat : v1.ownBlock = v.ownBlock ∨ ∃ b, v1.ownBlock = some b ∧ wr.heap.size ≤ b) (hb : Below w.heap.size w wr1) (hgw : w.heap.size < gw) :
    wr1.frozen? ⟨gw, 1, none⟩ = false ∧ (∃ u, wr1.cell? ⟨gw, 1, none⟩ = some u) ∧ Sm w (wr1.setCell ⟨gw, 1, none⟩ v1) gw gr gm s k v1 (pre ++ [p]) := by
  obtain ⟨h1, h2, h3, h4, h5, h6⟩ := h.1.put (k' := 0) ho hg hat hb (by omega)
  refine ⟨h1, ?_, h2, h3, h4, h5, h6, ?_⟩
  · have hgw1 : wr1.heap[gw]? = some (.cells #[.int .i64 s, v] 28 (0, 0)) := (hg.block gw h.1.lt (Kd.R_ne h.1.2.1 h.1.1 (by decide))).trans h.1.1
    exact ⟨_, blk_cell hgw1 1⟩
  · refine (Below.heap_setCell _ _ _ _ (by show w.heap.size ≠ gw; omega)).trans ?_
    exact (hg.block _ h.lt (Kd.R_ne h.1.2.1 h.2 (by decide))).trans h.2
theorem Sm.rest {k' : Nat} {e : Ending} (h : Sm w wr gw gr gm s k v pre) (hp : PutsF wr.heap.size wr gr (k' : Int) e w1) (hne : gm ≠ gr) (hgr : w.heap.size < gr) (he : pre ++ L k' = L m) : Sr w w1 gw gr gm s m k' v pre := by
  obtain ⟨h2, h3, h4, h5, h6, h7⟩ := h
  have hlt : w.heap.size < wr.heap.size := (Array.getElem?_eq_some_iff.1 h7).1
  have hltg : gw < wr.heap.size := (Array.getElem?_eq_some_iff.1 h2).1
  obtain ⟨⟨_, hz, hg⟩, hf⟩ := hp
  have hb := h4.zz.blk
  refine ⟨⟨(hg.block gw hltg (by have := ne_types h2 hb (by decide); simpa using this)).trans h2, ?_, ?_, h5.grown hg hb hne, below_grown h6 hg (by omega), he⟩, (hg.block _ hlt (by simp; omega)).trans h7⟩
  · obtain ⟨b, A, n, c, hc⟩ := hb
    exact Kd.R_mono (Kd.R_grown (Kd.R_types h3 hc (by decide)) hg (fun k hk => by have := hk.2; simpa using this)) (fun _ hk => hk.1)
  · obtain ⟨A, c, hzb, hm⟩ := hz
    refine ⟨A, c, hzb, hm, fun ad hA hn ho => ?_⟩
    have h1 := hf _ _ _ (blk_cell hzb 1) ad hA hn
    have h2 := Kd.R_lt h3 _ ho.symm
    omega
end
end Go.Proofs.Ytdjdnllnhonjkaa.Mn
