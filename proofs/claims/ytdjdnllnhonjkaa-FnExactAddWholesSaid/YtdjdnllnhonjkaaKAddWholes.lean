/- The law FnExactAddWholes, walked on the way that is taken. -/
import Derived.Test.YtdjdnllnhonjkaaPWx86
import Derived.Test.YtdjdnllnhonjkaaKa
import Derived.Test.YtdjdnllnhonjkaaXkAddWholes
import Derived.Test.YtdjdnllnhonjkaaLm
set_option linter.unusedVariables false
set_option linter.unusedSimpArgs false
namespace Go.Proofs.Ytdjdnllnhonjkaa.KAddWholes
open Go.RowKit Go.Proofs.YtdjdnllnhonjkaaW.PrintWords Go.Proofs.YtdjdnllnhonjkaaW.PrintLast Go.Proofs.YtdjdnllnhonjkaaW.PrintMore Go.Proofs.Ytdjdnllnhonjkaa.PW Go.Proofs.Ytdjdnllnhonjkaa.Pc Go.Proofs.Ytdjdnllnhonjkaa.Lm

set_option maxHeartbeats 800000 in
theorem early0 (s0 : Int) (A0 : Option Addr) (c0 : Nat) (l0 : List Int) (s1 : Int) (A1 : Option Addr) (c1 : Nat) (l1 : List Int) (n0 : Int) (w : World)
    (hr0 : Kd.C (Kd.int .i64) w A0 l0.length l0) (hc0 : l0.length ≤ c0) (hz0 : laws_szWhole.f s0 l0 1048576 = some n0) (pz0 : n0 < 0) :
    Calls Try.prog 10 #[.agg #[.int .i64 s0, .slice A0 l0.length c0], .agg #[.int .i64 s1, .slice A1 l1.length c1]] w fun e w' => e = .returned (.bool true) ∧ Below w.heap.size w w' := by
  have Z0 := Lib.hid (fun (W : World) (hb : Below w.heap.size w W) => laws_szWhole.calls s0 A0 c0 l0 1048576 n0 W (Kd.C_below hr0 hb) hc0 hz0)
  have HM := Lib.hid (((Mem.nil w).box 24 s0 (.slice A0 l0.length c0)).box 24 s1 (.slice A1 l1.length c1))
  clear hr0 hc0 hz0
  go_enter Try.func10, Try.ntmps10
  go_wp2_with fail
  refine (Z0.out _ HM.out.1).mono ?_
  rintro e W1 ⟨rfl, hb⟩
  have HM1 := Lib.hid (HM.out.below hb)
  clear hb HM
  go_wp2
  go_ret
  exact ⟨rfl, HM1.out.1⟩

set_option maxHeartbeats 800000 in
theorem early1 (s0 : Int) (A0 : Option Addr) (c0 : Nat) (l0 : List Int) (s1 : Int) (A1 : Option Addr) (c1 : Nat) (l1 : List Int) (n0 n1 : Int) (w : World)
    (hr0 : Kd.C (Kd.int .i64) w A0 l0.length l0) (hc0 : l0.length ≤ c0) (hr1 : Kd.C (Kd.int .i64) w A1 l1.length l1) (hc1 : l1.length ≤ c1)
    (hz0 : laws_szWhole.f s0 l0 1048576 = some n0) (pz0 : 0 ≤ n0) (hz1 : laws_szWhole.f s1 l1 n0 = some n1) (pz1 : n1 < 0) :
    Calls Try.prog 10 #[.agg #[.int .i64 s0, .slice A0 l0.length c0], .agg #[.int .i64 s1, .slice A1 l1.length c1]] w fun e w' => e = .returned (.bool true) ∧ Below w.heap.size w w' := by
  have Z0 := Lib.hid (fun (W : World) (hb : Below w.heap.size w W) => laws_szWhole.calls s0 A0 c0 l0 1048576 n0 W (Kd.C_below hr0 hb) hc0 hz0)
  have Z1 := Lib.hid (fun (W : World) (hb : Below w.heap.size w W) => laws_szWhole.calls s1 A1 c1 l1 n0 n1 W (Kd.C_below hr1 hb) hc1 hz1)
  have HM : Hid (Mem w ((w.alloc (.cells #[.int .i64 s0, .slice A0 l0.length c0] 24)).alloc (.cells #[.int .i64 s1, .slice A1 l1.length c1] 24)) [.box (w.heap.size + 1) 24 s1 (.slice A1 l1.length c1), .box w.heap.size 24 s0 (.slice A0 l0.length c0)]) := by
    have h1 := ((Mem.nil w).box 24 s0 (.slice A0 l0.length c0)).box 24 s1 (.slice A1 l1.length c1)
    have e1 : (w.alloc (.cells #[.int .i64 s0, .slice A0 l0.length c0] 24)).heap.size = w.heap.size + 1 := by simp
    rw [e1] at h1
    exact Lib.hid h1
  clear hr0 hc0 hr1 hc1 hz0 hz1
  go_enter Try.func10, Try.ntmps10
  go_wp2_with fail
  refine (Z0.out _ HM.out.1).mono ?_
  rintro e W1 ⟨rfl, hb⟩
  have HM1 := Lib.hid (HM.out.below hb)
  clear hb HM
  obtain ⟨p1a, p1b, p1c⟩ := HM1.out.cells (.tail _ (.head _))
  obtain ⟨q1a, q1b, q1c⟩ := HM1.out.cells (.head _)
  go_wp2_with fail
  refine (Z1.out _ HM1.out.1).mono ?_
  rintro e W2 ⟨rfl, hb⟩
  have HM2 := Lib.hid (HM1.out.below hb)
  clear hb HM1 p1a p1b p1c q1a q1b q1c
  go_wp2
  go_ret
  exact ⟨rfl, HM2.out.1⟩

set_option maxHeartbeats 3200000 in
set_option maxRecDepth 20000 in
theorem path (k : Nat) (s0 : Int) (A0 : Option Addr) (c0 : Nat) (l0 : List Int) (s1 : Int) (A1 : Option Addr) (c1 : Nat) (l1 : List Int) (g : Int) (gl : List Int) (cd n0 n1 m0 m1 mg : Int) (k0 k1 kg : List Int) (w : World)
    (hr0 : Kd.C (Kd.int .i64) w A0 l0.length l0) (hc0 : l0.length ≤ c0) (hr1 : Kd.C (Kd.int .i64) w A1 l1.length l1) (hc1 : l1.length ≤ c1)
    (hz0 : laws_szWhole.f s0 l0 1048576 = some n0) (pz0 : 0 ≤ n0) (hz1 : laws_szWhole.f s1 l1 n0 = some n1) (pz1 : 0 ≤ n1)
    (ht0 : laws_toWhole.f k s0 l0 = some (s0, l0)) (ht1 : laws_toWhole.f k s1 l1 = some (s1, l1))
    (hsp : spec_AddWholes.f k s0 l0 s1 l1 = some (g, gl, cd)) (him : impl_AddWholes.f s0 l0 s1 l1 = some (g, gl, cd))
    (heg : laws_eqWhole.f k g gl g gl = some true) (he0 : laws_eqWhole.f k s0 l0 s0 l0 = some true) (he1 : laws_eqWhole.f k s1 l1 s1 l1 = some true)
    (hm0 : laws_markWhole.f k s0 l0 1 = some (m0, k0)) (hm1 : laws_markWhole.f k s1 l1 m0 = some (m1, k1)) (pm1 : 0 ≤ m1)
    (hmg : laws_markWhole.f k g gl 1 = some (mg, kg)) (hhg : laws_heldWhole.f k g kg 1 = some mg) (pmg : 0 ≤ mg) :
    Calls Try.prog 10 #[.agg #[.int .i64 s0, .slice A0 l0.length c0], .agg #[.int .i64 s1, .slice A1 l1.length c1]] w fun e w' => e = .returned (.bool true) ∧ Below w.heap.size w w' := by
  have Z0 := Lib.hid (fun (W : World) (hb : Below w.heap.size w W) => laws_szWhole.calls s0 A0 c0 l0 1048576 n0 W (Kd.C_below hr0 hb) hc0 hz0)
  have Z1 := Lib.hid (fun (W : World) (hb : Below w.heap.size w W) => laws_szWhole.calls s1 A1 c1 l1 n0 n1 W (Kd.C_below hr1 hb) hc1 hz1)
  have T0 := Lib.hid (fun (W : World) (hb : Below w.heap.size w W) => laws_toWhole.calls k s0 A0 c0 l0 s0 l0 W (Kd.C_below hr0 hb) hc0 ht0)
  have T1 := Lib.hid (fun (W : World) (hb : Below w.heap.size w W) => laws_toWhole.calls k s1 A1 c1 l1 s1 l1 W (Kd.C_below hr1 hb) hc1 ht1)
  have SP := Lib.hid (fun (W : World) (A : Option Addr) (c : Nat) (B : Option Addr) (d : Nat) (h0 : Kd.C (Kd.int .i64) W A l0.length l0) (hc : l0.length ≤ c) (h1 : Kd.C (Kd.int .i64) W B l1.length l1) (hd : l1.length ≤ d) => spec_AddWholes.calls k s0 A c l0 s1 B d l1 g gl cd W h0 hc h1 hd hsp)
  have IM := Lib.hid (fun (W : World) (A : Option Addr) (c : Nat) (B : Option Addr) (d : Nat) (h0 : Kd.C (Kd.int .i64) W A l0.length l0) (hc : l0.length ≤ c) (h1 : Kd.C (Kd.int .i64) W B l1.length l1) (hd : l1.length ≤ d) => impl_AddWholes.calls s0 A c l0 s1 B d l1 g gl cd W h0 hc h1 hd him)
  have EG := Lib.hid (fun (W : World) (A : Option Addr) (c : Nat) (B : Option Addr) (d : Nat) (h0 : Kd.C (Kd.int .i64) W A gl.length gl) (hc : gl.length ≤ c) (h1 : Kd.C (Kd.int .i64) W B gl.length gl) (hd : gl.length ≤ d) => laws_eqWhole.calls k g A c gl g B d gl true W h0 hc h1 hd heg)
  have E0 := Lib.hid (fun (W : World) (A : Option Addr) (c : Nat) (B : Option Addr) (d : Nat) (h0 : Kd.C (Kd.int .i64) W A l0.length l0) (hc : l0.length ≤ c) (h1 : Kd.C (Kd.int .i64) W B l0.length l0) (hd : l0.length ≤ d) => laws_eqWhole.calls k s0 A c l0 s0 B d l0 true W h0 hc h1 hd he0)
  have E1 := Lib.hid (fun (W : World) (A : Option Addr) (c : Nat) (B : Option Addr) (d : Nat) (h0 : Kd.C (Kd.int .i64) W A l1.length l1) (hc : l1.length ≤ c) (h1 : Kd.C (Kd.int .i64) W B l1.length l1) (hd : l1.length ≤ d) => laws_eqWhole.calls k s1 A c l1 s1 B d l1 true W h0 hc h1 hd he1)
  have M0 := Lib.hid (fun (W : World) (P : Nat → Prop) (u : Value) (hB : Below w.heap.size w W) (ho : Kd.R (Kd.int .i64) 2 W w.heap.size P u l0) => laws_markWhole.calls k s0 P u l0 1 m0 k0 w W hB ho hm0)
  have M1 := Lib.hid (fun (W : World) (P : Nat → Prop) (u : Value) (hB : Below w.heap.size w W) (ho : Kd.R (Kd.int .i64) 2 W w.heap.size P u l1) => laws_markWhole.calls k s1 P u l1 m0 m1 k1 w W hB ho hm1)
  have MG := Lib.hid (fun (W : World) (P : Nat → Prop) (u : Value) (hB : Below w.heap.size w W) (ho : Kd.R (Kd.int .i64) 2 W w.heap.size P u gl) => laws_markWhole.calls k g P u gl 1 mg kg w W hB ho hmg)
  have HG := Lib.hid (fun (W : World) (A : Option Addr) (n c : Nat) (hn : n = kg.length) (h0 : Kd.C (Kd.int .i64) W A kg.length kg) (hc : kg.length ≤ c) => hn ▸ laws_heldWhole.calls k g A c kg 1 mg W h0 hc hhg)
  have HM : Hid (Mem w ((w.alloc (.cells #[.int .i64 s0, .slice A0 l0.length c0] 24)).alloc (.cells #[.int .i64 s1, .slice A1 l1.length c1] 24)) [.box (w.heap.size + 1) 24 s1 (.slice A1 l1.length c1), .box w.heap.size 24 s0 (.slice A0 l0.length c0)]) := by
    have h1 := ((Mem.nil w).box 24 s0 (.slice A0 l0.length c0)).box 24 s1 (.slice A1 l1.length c1)
    have e1 : (w.alloc (.cells #[.int .i64 s0, .slice A0 l0.length c0] 24)).heap.size = w.heap.size + 1 := by simp
    rw [e1] at h1
    exact Lib.hid h1
  clear hr0 hc0 hr1 hc1 hz0 hz1 ht0 ht1 hsp him heg he0 he1 hm0 hm1 hmg hhg
  go_enter Try.func10, Try.ntmps10
  go_wp2_with fail
  generalize hW0 : (w.alloc (.cells #[.int .i64 s0, .slice A0 l0.length c0] 24)).alloc (.cells #[.int .i64 s1, .slice A1 l1.length c1] 24) = W0 at HM ⊢
  clear hW0
  generalize hB0 : w.heap.size + 1 = b1 at HM ⊢
  generalize hB1 : w.heap.size = b0 at HM ⊢
  -- the sizes
  refine (Z0.out _ HM.out.1).mono ?_
  rintro e W1 ⟨rfl, hb⟩
  have HM1 := Lib.hid (HM.out.below hb)
  clear hb HM
  obtain ⟨p1a, p1b, p1c⟩ := HM1.out.cells (.tail _ (.head _))
  obtain ⟨q1a, q1b, q1c⟩ := HM1.out.cells (.head _)
  go_wp2_with fail
  refine (Z1.out _ HM1.out.1).mono ?_
  rintro e W2 ⟨rfl, hb⟩
  have HM2 := Lib.hid (HM1.out.below hb)
  clear hb HM1 p1a p1b p1c q1a q1b q1c
  obtain ⟨p1a, p1b, p1c⟩ := HM2.out.cells (.tail _ (.head _))
  obtain ⟨q1a, q1b, q1c⟩ := HM2.out.cells (.head _)
  go_wp2_with fail
  -- what the reference answers
  have T0a := T0
  have T1a := T1
  go_upto_region 8 with fail
  go_cut [6, 7] (fun v6 v7 wc => v7 = .int .i64 cd ∧ ∃ (b6 : Nat) (A5 : Option Addr) (d5 lo hi : Nat), v6 = .pointer (some ⟨b6, 0, none⟩) ∧ Hid (Mem w wc [.box b6 28 g (.slice A5 gl.length d5), .row (.slice A5 gl.length d5) gl lo hi, .box b1 24 s1 (.slice A1 l1.length c1), .box b0 24 s0 (.slice A0 l0.length c0)]))
  case first =>
    go_region_held3 (fun w' => w'.cell? ⟨b0, 0, none⟩ = some (.int .i64 s0) ∧ w'.cell? ⟨b0, 1, none⟩ = some (.slice A0 l0.length c0) ∧ w'.cell? ⟨b1, 0, none⟩ = some (.int .i64 s1) ∧ w'.cell? ⟨b1, 1, none⟩ = some (.slice A1 l1.length c1)) (go_keep)
      (first
        | (go_at_call 19; refine (T0a.out _ (by first | exact (Mem.drew HM2.out).1 | exact (Mem.drew (Mem.box HM2.out 28 0 (.slice none 0 0))).1 | exact (Mem.box (Mem.drew HM2.out) 28 0 (.slice none 0 0)).1)).mono ?_; rintro e W3 ⟨u3, rfl, hR, hb⟩; obtain ⟨A3, d3, rfl⟩ := Kd.R_slice hR; (first | (have HM3 := Lib.hid (Mem.row (Mem.drew HM2.out) hR hb)) | (have HM3 := Lib.hid (Mem.row (Mem.drew (Mem.box HM2.out 28 0 (.slice none 0 0))) hR hb); have ZB2 := Lib.hid True.intro) | (have HM3 := Lib.hid (Mem.row (Mem.box (Mem.drew HM2.out) 28 0 (.slice none 0 0)) hR hb); have ZB2 := Lib.hid True.intro)); obtain ⟨p3a, p3b, p3c⟩ := HM3.out.cells (b := b0) (t := 24) (s := s0) (u := .slice A0 l0.length c0) (by first | exact .head _ | exact .tail _ (.head _) | exact .tail _ (.tail _ (.head _)) | exact .tail _ (.tail _ (.tail _ (.head _))) | exact .tail _ (.tail _ (.tail _ (.tail _ (.head _)))) | exact .tail _ (.tail _ (.tail _ (.tail _ (.tail _ (.head _))))) | exact .tail _ (.tail _ (.tail _ (.tail _ (.tail _ (.tail _ (.head _)))))) | exact .tail _ (.tail _ (.tail _ (.tail _ (.tail _ (.tail _ (.tail _ (.head _)))))))); obtain ⟨q3a, q3b, q3c⟩ := HM3.out.cells (b := b1) (t := 24) (s := s1) (u := .slice A1 l1.length c1) (by first | exact .head _ | exact .tail _ (.head _) | exact .tail _ (.tail _ (.head _)) | exact .tail _ (.tail _ (.tail _ (.head _))) | exact .tail _ (.tail _ (.tail _ (.tail _ (.head _)))) | exact .tail _ (.tail _ (.tail _ (.tail _ (.tail _ (.head _))))) | exact .tail _ (.tail _ (.tail _ (.tail _ (.tail _ (.tail _ (.head _)))))) | exact .tail _ (.tail _ (.tail _ (.tail _ (.tail _ (.tail _ (.tail _ (.head _)))))))); clear hR hb T0a)
        | (go_at_call 19; refine (T1a.out _ (by first | exact HM3.out.1 | exact (Mem.box HM3.out 28 0 (.slice none 0 0)).1)).mono ?_; rintro e W4 ⟨u4, rfl, hR, hb⟩; obtain ⟨A4, d4, rfl⟩ := Kd.R_slice hR; (first | (have HM4 := Lib.hid (Mem.row HM3.out hR hb)) | (have HM4 := Lib.hid (Mem.row (Mem.box HM3.out 28 0 (.slice none 0 0)) hR hb); have ZB3 := Lib.hid True.intro)); obtain ⟨p4a, p4b, p4c⟩ := HM4.out.cells (b := b0) (t := 24) (s := s0) (u := .slice A0 l0.length c0) (by first | exact .head _ | exact .tail _ (.head _) | exact .tail _ (.tail _ (.head _)) | exact .tail _ (.tail _ (.tail _ (.head _))) | exact .tail _ (.tail _ (.tail _ (.tail _ (.head _)))) | exact .tail _ (.tail _ (.tail _ (.tail _ (.tail _ (.head _))))) | exact .tail _ (.tail _ (.tail _ (.tail _ (.tail _ (.tail _ (.head _)))))) | exact .tail _ (.tail _ (.tail _ (.tail _ (.tail _ (.tail _ (.tail _ (.head _)))))))); obtain ⟨q4a, q4b, q4c⟩ := HM4.out.cells (b := b1) (t := 24) (s := s1) (u := .slice A1 l1.length c1) (by first | exact .head _ | exact .tail _ (.head _) | exact .tail _ (.tail _ (.head _)) | exact .tail _ (.tail _ (.tail _ (.head _))) | exact .tail _ (.tail _ (.tail _ (.tail _ (.head _)))) | exact .tail _ (.tail _ (.tail _ (.tail _ (.tail _ (.head _))))) | exact .tail _ (.tail _ (.tail _ (.tail _ (.tail _ (.tail _ (.head _)))))) | exact .tail _ (.tail _ (.tail _ (.tail _ (.tail _ (.tail _ (.tail _ (.head _)))))))); clear hR hb T1a)
        | (go_at_call 36; (first | (have HM4z := HM4; refine (SP.out _ _ _ _ _ (HM4z.out.reads (by first | exact .head _ | exact .tail _ (.head _) | exact .tail _ (.tail _ (.head _)) | exact .tail _ (.tail _ (.tail _ (.head _))) | exact .tail _ (.tail _ (.tail _ (.tail _ (.head _)))) | exact .tail _ (.tail _ (.tail _ (.tail _ (.tail _ (.head _))))) | exact .tail _ (.tail _ (.tail _ (.tail _ (.tail _ (.tail _ (.head _)))))) | exact .tail _ (.tail _ (.tail _ (.tail _ (.tail _ (.tail _ (.tail _ (.head _))))))))).1 (HM4z.out.reads (by first | exact .head _ | exact .tail _ (.head _) | exact .tail _ (.tail _ (.head _)) | exact .tail _ (.tail _ (.tail _ (.head _))) | exact .tail _ (.tail _ (.tail _ (.tail _ (.head _)))) | exact .tail _ (.tail _ (.tail _ (.tail _ (.tail _ (.head _))))) | exact .tail _ (.tail _ (.tail _ (.tail _ (.tail _ (.tail _ (.head _)))))) | exact .tail _ (.tail _ (.tail _ (.tail _ (.tail _ (.tail _ (.tail _ (.head _))))))))).2 (HM4z.out.reads (by first | exact .head _ | exact .tail _ (.head _) | exact .tail _ (.tail _ (.head _)) | exact .tail _ (.tail _ (.tail _ (.head _))) | exact .tail _ (.tail _ (.tail _ (.tail _ (.head _)))) | exact .tail _ (.tail _ (.tail _ (.tail _ (.tail _ (.head _))))) | exact .tail _ (.tail _ (.tail _ (.tail _ (.tail _ (.tail _ (.head _)))))) | exact .tail _ (.tail _ (.tail _ (.tail _ (.tail _ (.tail _ (.tail _ (.head _))))))))).1 (HM4z.out.reads (by first | exact .head _ | exact .tail _ (.head _) | exact .tail _ (.tail _ (.head _)) | exact .tail _ (.tail _ (.tail _ (.head _))) | exact .tail _ (.tail _ (.tail _ (.tail _ (.head _)))) | exact .tail _ (.tail _ (.tail _ (.tail _ (.tail _ (.head _))))) | exact .tail _ (.tail _ (.tail _ (.tail _ (.tail _ (.tail _ (.head _)))))) | exact .tail _ (.tail _ (.tail _ (.tail _ (.tail _ (.tail _ (.tail _ (.head _))))))))).2).mono ?_) | (have HM4z := Lib.hid (Mem.box HM4.out 28 0 (.slice none 0 0)); have ZB4 := Lib.hid True.intro; refine (SP.out _ _ _ _ _ (HM4z.out.reads (by first | exact .head _ | exact .tail _ (.head _) | exact .tail _ (.tail _ (.head _)) | exact .tail _ (.tail _ (.tail _ (.head _))) | exact .tail _ (.tail _ (.tail _ (.tail _ (.head _)))) | exact .tail _ (.tail _ (.tail _ (.tail _ (.tail _ (.head _))))) | exact .tail _ (.tail _ (.tail _ (.tail _ (.tail _ (.tail _ (.head _)))))) | exact .tail _ (.tail _ (.tail _ (.tail _ (.tail _ (.tail _ (.tail _ (.head _))))))))).1 (HM4z.out.reads (by first | exact .head _ | exact .tail _ (.head _) | exact .tail _ (.tail _ (.head _)) | exact .tail _ (.tail _ (.tail _ (.head _))) | exact .tail _ (.tail _ (.tail _ (.tail _ (.head _)))) | exact .tail _ (.tail _ (.tail _ (.tail _ (.tail _ (.head _))))) | exact .tail _ (.tail _ (.tail _ (.tail _ (.tail _ (.tail _ (.head _)))))) | exact .tail _ (.tail _ (.tail _ (.tail _ (.tail _ (.tail _ (.tail _ (.head _))))))))).2 (HM4z.out.reads (by first | exact .head _ | exact .tail _ (.head _) | exact .tail _ (.tail _ (.head _)) | exact .tail _ (.tail _ (.tail _ (.head _))) | exact .tail _ (.tail _ (.tail _ (.tail _ (.head _)))) | exact .tail _ (.tail _ (.tail _ (.tail _ (.tail _ (.head _))))) | exact .tail _ (.tail _ (.tail _ (.tail _ (.tail _ (.tail _ (.head _)))))) | exact .tail _ (.tail _ (.tail _ (.tail _ (.tail _ (.tail _ (.tail _ (.head _))))))))).1 (HM4z.out.reads (by first | exact .head _ | exact .tail _ (.head _) | exact .tail _ (.tail _ (.head _)) | exact .tail _ (.tail _ (.tail _ (.head _))) | exact .tail _ (.tail _ (.tail _ (.tail _ (.head _)))) | exact .tail _ (.tail _ (.tail _ (.tail _ (.tail _ (.head _))))) | exact .tail _ (.tail _ (.tail _ (.tail _ (.tail _ (.tail _ (.head _)))))) | exact .tail _ (.tail _ (.tail _ (.tail _ (.tail _ (.tail _ (.tail _ (.head _))))))))).2).mono ?_)); rintro e W5 ⟨u5, rfl, hR, hb⟩; obtain ⟨A5, d5, rfl⟩ := Kd.R_slice hR; have HM5 := Lib.hid (Mem.row HM4z.out hR hb); obtain ⟨p5a, p5b, p5c⟩ := HM5.out.cells (b := b0) (t := 24) (s := s0) (u := .slice A0 l0.length c0) (by first | exact .head _ | exact .tail _ (.head _) | exact .tail _ (.tail _ (.head _)) | exact .tail _ (.tail _ (.tail _ (.head _))) | exact .tail _ (.tail _ (.tail _ (.tail _ (.head _)))) | exact .tail _ (.tail _ (.tail _ (.tail _ (.tail _ (.head _))))) | exact .tail _ (.tail _ (.tail _ (.tail _ (.tail _ (.tail _ (.head _)))))) | exact .tail _ (.tail _ (.tail _ (.tail _ (.tail _ (.tail _ (.tail _ (.head _)))))))); obtain ⟨q5a, q5b, q5c⟩ := HM5.out.cells (b := b1) (t := 24) (s := s1) (u := .slice A1 l1.length c1) (by first | exact .head _ | exact .tail _ (.head _) | exact .tail _ (.tail _ (.head _)) | exact .tail _ (.tail _ (.tail _ (.head _))) | exact .tail _ (.tail _ (.tail _ (.tail _ (.head _)))) | exact .tail _ (.tail _ (.tail _ (.tail _ (.tail _ (.head _))))) | exact .tail _ (.tail _ (.tail _ (.tail _ (.tail _ (.tail _ (.head _)))))) | exact .tail _ (.tail _ (.tail _ (.tail _ (.tail _ (.tail _ (.tail _ (.head _)))))))); (first | (have zz := ZB4; obtain ⟨z0, z1, z2⟩ := HM5.out.cells (b := W4.heap.size) (t := 28) (s := 0) (u := .slice none 0 0) (by first | exact .head _ | exact .tail _ (.head _) | exact .tail _ (.tail _ (.head _)) | exact .tail _ (.tail _ (.tail _ (.head _))) | exact .tail _ (.tail _ (.tail _ (.tail _ (.head _)))) | exact .tail _ (.tail _ (.tail _ (.tail _ (.tail _ (.head _))))) | exact .tail _ (.tail _ (.tail _ (.tail _ (.tail _ (.tail _ (.head _)))))) | exact .tail _ (.tail _ (.tail _ (.tail _ (.tail _ (.tail _ (.tail _ (.head _)))))))); obtain ⟨zf0, zf1⟩ := HM5.out.lts (b := W4.heap.size) (t := 28) (s := 0) (u := .slice none 0 0) (by first | exact .head _ | exact .tail _ (.head _) | exact .tail _ (.tail _ (.head _)) | exact .tail _ (.tail _ (.tail _ (.head _))) | exact .tail _ (.tail _ (.tail _ (.tail _ (.head _)))) | exact .tail _ (.tail _ (.tail _ (.tail _ (.tail _ (.head _))))) | exact .tail _ (.tail _ (.tail _ (.tail _ (.tail _ (.tail _ (.head _)))))) | exact .tail _ (.tail _ (.tail _ (.tail _ (.tail _ (.tail _ (.tail _ (.head _)))))))); have zn0 := Nat.ne_of_lt p4c; have zn1 := Nat.ne_of_lt q4c; have zm0 := Ne.symm zn0; have zm1 := Ne.symm zn1) | (have zz := ZB3; obtain ⟨z0, z1, z2⟩ := HM5.out.cells (b := W3.heap.size) (t := 28) (s := 0) (u := .slice none 0 0) (by first | exact .head _ | exact .tail _ (.head _) | exact .tail _ (.tail _ (.head _)) | exact .tail _ (.tail _ (.tail _ (.head _))) | exact .tail _ (.tail _ (.tail _ (.tail _ (.head _)))) | exact .tail _ (.tail _ (.tail _ (.tail _ (.tail _ (.head _))))) | exact .tail _ (.tail _ (.tail _ (.tail _ (.tail _ (.tail _ (.head _)))))) | exact .tail _ (.tail _ (.tail _ (.tail _ (.tail _ (.tail _ (.tail _ (.head _)))))))); obtain ⟨zf0, zf1⟩ := HM5.out.lts (b := W3.heap.size) (t := 28) (s := 0) (u := .slice none 0 0) (by first | exact .head _ | exact .tail _ (.head _) | exact .tail _ (.tail _ (.head _)) | exact .tail _ (.tail _ (.tail _ (.head _))) | exact .tail _ (.tail _ (.tail _ (.tail _ (.head _)))) | exact .tail _ (.tail _ (.tail _ (.tail _ (.tail _ (.head _))))) | exact .tail _ (.tail _ (.tail _ (.tail _ (.tail _ (.tail _ (.head _)))))) | exact .tail _ (.tail _ (.tail _ (.tail _ (.tail _ (.tail _ (.tail _ (.head _)))))))); have zn0 := Nat.ne_of_lt p3c; have zn1 := Nat.ne_of_lt q3c; have zm0 := Ne.symm zn0; have zm1 := Ne.symm zn1) | (have zz := ZB2; obtain ⟨z0, z1, z2⟩ := HM5.out.cells (b := W2.heap.size) (t := 28) (s := 0) (u := .slice none 0 0) (by first | exact .head _ | exact .tail _ (.head _) | exact .tail _ (.tail _ (.head _)) | exact .tail _ (.tail _ (.tail _ (.head _))) | exact .tail _ (.tail _ (.tail _ (.tail _ (.head _)))) | exact .tail _ (.tail _ (.tail _ (.tail _ (.tail _ (.head _))))) | exact .tail _ (.tail _ (.tail _ (.tail _ (.tail _ (.tail _ (.head _)))))) | exact .tail _ (.tail _ (.tail _ (.tail _ (.tail _ (.tail _ (.tail _ (.head _)))))))); obtain ⟨zf0, zf1⟩ := HM5.out.lts (b := W2.heap.size) (t := 28) (s := 0) (u := .slice none 0 0) (by first | exact .head _ | exact .tail _ (.head _) | exact .tail _ (.tail _ (.head _)) | exact .tail _ (.tail _ (.tail _ (.head _))) | exact .tail _ (.tail _ (.tail _ (.tail _ (.head _)))) | exact .tail _ (.tail _ (.tail _ (.tail _ (.tail _ (.head _))))) | exact .tail _ (.tail _ (.tail _ (.tail _ (.tail _ (.tail _ (.head _)))))) | exact .tail _ (.tail _ (.tail _ (.tail _ (.tail _ (.tail _ (.tail _ (.head _)))))))); have zn0 := Nat.ne_of_lt p1c; have zn1 := Nat.ne_of_lt q1c; have zm0 := Ne.symm zn0; have zm1 := Ne.symm zn1) | skip); clear hR hb))
    all_goals go_wp2_with fail
    all_goals go_meet
    all_goals first
      | exact ⟨rfl, _, A5, d5, _, _, rfl, Lib.hid ((Mem.box HM5.out _ _ _).sub (List.Sublist.cons_cons _ (List.Sublist.cons_cons _ (List.Sublist.cons _ (List.Sublist.cons _ (List.Sublist.refl _))))))⟩
      | exact ⟨rfl, _, A5, d5, _, _, rfl, Lib.hid (((Mem.fill (bf := [_]) HM5.out HM4.out.1.size).sub (List.Sublist.cons_cons _ (List.Sublist.cons_cons _ (List.Sublist.cons _ (List.Sublist.cons _ (List.Sublist.refl _)))))).swap)⟩
      | exact ⟨rfl, _, A5, d5, _, _, rfl, Lib.hid (((Mem.fill (bf := [_, _]) HM5.out HM3.out.1.size).sub (List.Sublist.cons_cons _ (List.Sublist.cons _ (List.Sublist.cons_cons _ (List.Sublist.cons _ (List.Sublist.refl _)))))).swap)⟩
      | exact ⟨rfl, _, A5, d5, _, _, rfl, Lib.hid (((Mem.fill (bf := [_, _, _]) HM5.out HM2.out.1.size).sub (List.Sublist.cons_cons _ (List.Sublist.cons _ (List.Sublist.cons _ (List.Sublist.cons_cons _ (List.Sublist.refl _)))))).swap)⟩
  case rest =>
  clear HM2 p1a p1b p1c q1a q1b q1c T0a T1a
  obtain ⟨rfl, b6, A5, d5, lo5, hi5, rfl, HM6⟩ := hcut
  obtain ⟨cb6a, cb6b, cb6c⟩ := HM6.out.cells (.head _)
  obtain ⟨cb1a, cb1b, cb1c⟩ := HM6.out.cells (.tail _ (.tail _ (.head _)))
  obtain ⟨cb0a, cb0b, cb0c⟩ := HM6.out.cells (.tail _ (.tail _ (.tail _ (.head _))))
  go_wp2_with fail
  refine (T0.out _ HM6.out.1).mono ?_
  rintro e W7 ⟨u7, rfl, hR, hb⟩
  obtain ⟨A7, d7, rfl⟩ := Kd.R_slice hR
  have HM7 := Lib.hid (Mem.row HM6.out hR hb)
  clear hR hb HM6
  clear cb6a cb6b cb6c cb1a cb1b cb1c cb0a cb0b cb0c
  obtain ⟨cb6a, cb6b, cb6c⟩ := HM7.out.cells (.tail _ (.head _))
  obtain ⟨cb1a, cb1b, cb1c⟩ := HM7.out.cells (.tail _ (.tail _ (.tail _ (.head _))))
  obtain ⟨cb0a, cb0b, cb0c⟩ := HM7.out.cells (.tail _ (.tail _ (.tail _ (.tail _ (.head _)))))
  go_wp2_with fail
  have HM8 := Lib.hid (Mem.box HM7.out 28 s0 (.slice A7 l0.length d7))
  clear HM7
  generalize hW : W7.alloc (.cells #[.int .i64 s0, .slice A7 l0.length d7] 28) = W8 at HM8 ⊢
  clear hW
  generalize hb : W7.heap.size = b8 at HM8 ⊢
  refine (T1.out _ HM8.out.1).mono ?_
  rintro e W9 ⟨u9, rfl, hR, hb⟩
  obtain ⟨A9, d9, rfl⟩ := Kd.R_slice hR
  have HM9 := Lib.hid (Mem.row HM8.out hR hb)
  clear hR hb HM8
  clear cb6a cb6b cb6c cb1a cb1b cb1c cb0a cb0b cb0c
  obtain ⟨cb8a, cb8b, cb8c⟩ := HM9.out.cells (.tail _ (.head _))
  obtain ⟨cb6a, cb6b, cb6c⟩ := HM9.out.cells (.tail _ (.tail _ (.tail _ (.head _))))
  obtain ⟨cb1a, cb1b, cb1c⟩ := HM9.out.cells (.tail _ (.tail _ (.tail _ (.tail _ (.tail _ (.head _))))))
  obtain ⟨cb0a, cb0b, cb0c⟩ := HM9.out.cells (.tail _ (.tail _ (.tail _ (.tail _ (.tail _ (.tail _ (.head _)))))))
  go_wp2_with fail
  have HM10 := Lib.hid (Mem.box HM9.out 28 s1 (.slice A9 l1.length d9))
  clear HM9
  generalize hW : W9.alloc (.cells #[.int .i64 s1, .slice A9 l1.length d9] 28) = W10 at HM10 ⊢
  clear hW
  generalize hb : W9.heap.size = b10 at HM10 ⊢
  refine (IM.out _ _ _ _ _ (HM10.out.reads (.tail _ (.tail _ (.tail _ (.head _))))).1 (HM10.out.reads (.tail _ (.tail _ (.tail _ (.head _))))).2 (HM10.out.reads (.tail _ (.head _))).1 (HM10.out.reads (.tail _ (.head _))).2).mono ?_
  rintro e W11 ⟨u11, rfl, hR, hb⟩
  obtain ⟨A11, d11, rfl⟩ := Kd.R_slice hR
  have HM11 := Lib.hid (Mem.row HM10.out hR hb)
  clear hR hb HM10
  clear cb8a cb8b cb8c cb6a cb6b cb6c cb1a cb1b cb1c cb0a cb0b cb0c
  obtain ⟨cb10a, cb10b, cb10c⟩ := HM11.out.cells (.tail _ (.head _))
  obtain ⟨cb8a, cb8b, cb8c⟩ := HM11.out.cells (.tail _ (.tail _ (.tail _ (.head _))))
  obtain ⟨cb6a, cb6b, cb6c⟩ := HM11.out.cells (.tail _ (.tail _ (.tail _ (.tail _ (.tail _ (.head _))))))
  obtain ⟨cb1a, cb1b, cb1c⟩ := HM11.out.cells (.tail _ (.tail _ (.tail _ (.tail _ (.tail _ (.tail _ (.tail _ (.head _))))))))
  obtain ⟨cb0a, cb0b, cb0c⟩ := HM11.out.cells (.tail _ (.tail _ (.tail _ (.tail _ (.tail _ (.tail _ (.tail _ (.tail _ (.head _)))))))))
  go_wp2_with fail
  have HM12 := Lib.hid (Mem.box HM11.out 28 g (.slice A11 gl.length d11))
  clear HM11
  generalize hW : W11.alloc (.cells #[.int .i64 g, .slice A11 gl.length d11] 28) = W12 at HM12 ⊢
  clear hW
  generalize hb : W11.heap.size = b12 at HM12 ⊢
  refine (EG.out _ _ _ _ _ (HM12.out.reads (.tail _ (.head _))).1 (HM12.out.reads (.tail _ (.head _))).2 (HM12.out.reads (.tail _ (.tail _ (.tail _ (.tail _ (.tail _ (.tail _ (.tail _ (.head _))))))))).1 (HM12.out.reads (.tail _ (.tail _ (.tail _ (.tail _ (.tail _ (.tail _ (.tail _ (.head _))))))))).2).mono ?_
  rintro e W13 ⟨rfl, hb⟩
  have HM13 := Lib.hid (Mem.below HM12.out hb)
  clear hb HM12
  clear cb10a cb10b cb10c cb8a cb8b cb8c cb6a cb6b cb6c cb1a cb1b cb1c cb0a cb0b cb0c
  obtain ⟨cb12a, cb12b, cb12c⟩ := HM13.out.cells (.head _)
  obtain ⟨cb10a, cb10b, cb10c⟩ := HM13.out.cells (.tail _ (.tail _ (.head _)))
  obtain ⟨cb8a, cb8b, cb8c⟩ := HM13.out.cells (.tail _ (.tail _ (.tail _ (.tail _ (.head _)))))
  obtain ⟨cb6a, cb6b, cb6c⟩ := HM13.out.cells (.tail _ (.tail _ (.tail _ (.tail _ (.tail _ (.tail _ (.head _)))))))
  obtain ⟨cb1a, cb1b, cb1c⟩ := HM13.out.cells (.tail _ (.tail _ (.tail _ (.tail _ (.tail _ (.tail _ (.tail _ (.tail _ (.head _)))))))))
  obtain ⟨cb0a, cb0b, cb0c⟩ := HM13.out.cells (.tail _ (.tail _ (.tail _ (.tail _ (.tail _ (.tail _ (.tail _ (.tail _ (.tail _ (.head _))))))))))
  go_wp2_with fail
  have TX := T0
  go_region_held3 (fun w' => w'.cell? ⟨b8, 0, none⟩ = some (.int .i64 s0) ∧ w'.cell? ⟨b8, 1, none⟩ = some (.slice A7 l0.length d7) ∧ w'.cell? ⟨b0, 0, none⟩ = some (.int .i64 s0) ∧ w'.cell? ⟨b0, 1, none⟩ = some (.slice A0 l0.length c0)) (go_keep)
    (first
      | (go_at_call 19; refine (TX.out _ (Mem.drew HM13.out).1).mono ?_; rintro e W14 ⟨u14, rfl, hR, hb⟩; obtain ⟨A14, d14, rfl⟩ := Kd.R_slice hR; have HM14 := Lib.hid (Mem.row (Mem.drew HM13.out) hR hb); obtain ⟨cb12a, cb12b, cb12c⟩ := HM14.out.cells (.tail _ (.head _)); obtain ⟨cb10a, cb10b, cb10c⟩ := HM14.out.cells (.tail _ (.tail _ (.tail _ (.head _)))); obtain ⟨cb8a, cb8b, cb8c⟩ := HM14.out.cells (.tail _ (.tail _ (.tail _ (.tail _ (.tail _ (.head _)))))); obtain ⟨cb6a, cb6b, cb6c⟩ := HM14.out.cells (.tail _ (.tail _ (.tail _ (.tail _ (.tail _ (.tail _ (.tail _ (.head _)))))))); obtain ⟨cb1a, cb1b, cb1c⟩ := HM14.out.cells (.tail _ (.tail _ (.tail _ (.tail _ (.tail _ (.tail _ (.tail _ (.tail _ (.tail _ (.head _)))))))))); obtain ⟨cb0a, cb0b, cb0c⟩ := HM14.out.cells (.tail _ (.tail _ (.tail _ (.tail _ (.tail _ (.tail _ (.tail _ (.tail _ (.tail _ (.tail _ (.head _))))))))))); clear hR hb TX)
      | (go_at_call 21; refine (E0.out _ _ _ _ _ (HM14.out.reads (.tail _ (.tail _ (.tail _ (.tail _ (.tail _ (.tail _ (.head _)))))))).1 (HM14.out.reads (.tail _ (.tail _ (.tail _ (.tail _ (.tail _ (.tail _ (.head _)))))))).2 (HM14.out.reads (.head _)).1 (HM14.out.reads (.head _)).2).mono ?_; rintro e W15 ⟨rfl, hb⟩; have HM15 := Lib.hid (Mem.below HM14.out hb).tail; obtain ⟨cb12a, cb12b, cb12c⟩ := HM15.out.cells (.head _); obtain ⟨cb10a, cb10b, cb10c⟩ := HM15.out.cells (.tail _ (.tail _ (.head _))); obtain ⟨cb8a, cb8b, cb8c⟩ := HM15.out.cells (.tail _ (.tail _ (.tail _ (.tail _ (.head _))))); obtain ⟨cb6a, cb6b, cb6c⟩ := HM15.out.cells (.tail _ (.tail _ (.tail _ (.tail _ (.tail _ (.tail _ (.head _))))))); obtain ⟨cb1a, cb1b, cb1c⟩ := HM15.out.cells (.tail _ (.tail _ (.tail _ (.tail _ (.tail _ (.tail _ (.tail _ (.tail _ (.head _))))))))); obtain ⟨cb0a, cb0b, cb0c⟩ := HM15.out.cells (.tail _ (.tail _ (.tail _ (.tail _ (.tail _ (.tail _ (.tail _ (.tail _ (.tail _ (.head _)))))))))); clear hb))
  go_wp2_with fail
  clear HM13 HM14
  have TX := T1
  go_region_held3 (fun w' => w'.cell? ⟨b10, 0, none⟩ = some (.int .i64 s1) ∧ w'.cell? ⟨b10, 1, none⟩ = some (.slice A9 l1.length d9) ∧ w'.cell? ⟨b1, 0, none⟩ = some (.int .i64 s1) ∧ w'.cell? ⟨b1, 1, none⟩ = some (.slice A1 l1.length c1)) (go_keep)
    (first
      | (go_at_call 19; refine (TX.out _ (Mem.drew HM15.out).1).mono ?_; rintro e W16 ⟨u16, rfl, hR, hb⟩; obtain ⟨A16, d16, rfl⟩ := Kd.R_slice hR; have HM16 := Lib.hid (Mem.row (Mem.drew HM15.out) hR hb); obtain ⟨cb12a, cb12b, cb12c⟩ := HM16.out.cells (.tail _ (.head _)); obtain ⟨cb10a, cb10b, cb10c⟩ := HM16.out.cells (.tail _ (.tail _ (.tail _ (.head _)))); obtain ⟨cb8a, cb8b, cb8c⟩ := HM16.out.cells (.tail _ (.tail _ (.tail _ (.tail _ (.tail _ (.head _)))))); obtain ⟨cb6a, cb6b, cb6c⟩ := HM16.out.cells (.tail _ (.tail _ (.tail _ (.tail _ (.tail _ (.tail _ (.tail _ (.head _)))))))); obtain ⟨cb1a, cb1b, cb1c⟩ := HM16.out.cells (.tail _ (.tail _ (.tail _ (.tail _ (.tail _ (.tail _ (.tail _ (.tail _ (.tail _ (.head _)))))))))); obtain ⟨cb0a, cb0b, cb0c⟩ := HM16.out.cells (.tail _ (.tail _ (.tail _ (.tail _ (.tail _ (.tail _ (.tail _ (.tail _ (.tail _ (.tail _ (.head _))))))))))); clear hR hb TX)
      | (go_at_call 21; refine (E1.out _ _ _ _ _ (HM16.out.reads (.tail _ (.tail _ (.tail _ (.tail _ (.head _)))))).1 (HM16.out.reads (.tail _ (.tail _ (.tail _ (.tail _ (.head _)))))).2 (HM16.out.reads (.head _)).1 (HM16.out.reads (.head _)).2).mono ?_; rintro e W17 ⟨rfl, hb⟩; have HM17 := Lib.hid (Mem.below HM16.out hb).tail; obtain ⟨cb12a, cb12b, cb12c⟩ := HM17.out.cells (.head _); obtain ⟨cb10a, cb10b, cb10c⟩ := HM17.out.cells (.tail _ (.tail _ (.head _))); obtain ⟨cb8a, cb8b, cb8c⟩ := HM17.out.cells (.tail _ (.tail _ (.tail _ (.tail _ (.head _))))); obtain ⟨cb6a, cb6b, cb6c⟩ := HM17.out.cells (.tail _ (.tail _ (.tail _ (.tail _ (.tail _ (.tail _ (.head _))))))); obtain ⟨cb1a, cb1b, cb1c⟩ := HM17.out.cells (.tail _ (.tail _ (.tail _ (.tail _ (.tail _ (.tail _ (.tail _ (.tail _ (.head _))))))))); obtain ⟨cb0a, cb0b, cb0c⟩ := HM17.out.cells (.tail _ (.tail _ (.tail _ (.tail _ (.tail _ (.tail _ (.tail _ (.tail _ (.tail _ (.head _)))))))))); clear hb))
  go_wp2_with fail
  clear HM15 HM16
  refine (M0.out _ _ _ HM17.out.1 (HM17.out.own (.tail _ (.tail _ (.tail _ (.tail _ (.tail _ (.head _)))))))).mono ?_
  rintro e W18 ⟨rfl, hR, hB, hk⟩
  have HM18 := Lib.hid (Mem.mark (bf := [_, _, _, _, _]) HM17.out hR hB hk)
  clear hR hB hk HM17
  clear cb12a cb12b cb12c cb10a cb10b cb10c cb8a cb8b cb8c cb6a cb6b cb6c cb1a cb1b cb1c cb0a cb0b cb0c
  obtain ⟨cb12a, cb12b, cb12c⟩ := HM18.out.cells (.head _)
  obtain ⟨cb10a, cb10b, cb10c⟩ := HM18.out.cells (.tail _ (.tail _ (.head _)))
  obtain ⟨cb8a, cb8b, cb8c⟩ := HM18.out.cells (.tail _ (.tail _ (.tail _ (.tail _ (.head _)))))
  obtain ⟨cb6a, cb6b, cb6c⟩ := HM18.out.cells (.tail _ (.tail _ (.tail _ (.tail _ (.tail _ (.tail _ (.head _)))))))
  obtain ⟨cb1a, cb1b, cb1c⟩ := HM18.out.cells (.tail _ (.tail _ (.tail _ (.tail _ (.tail _ (.tail _ (.tail _ (.tail _ (.head _)))))))))
  obtain ⟨cb0a, cb0b, cb0c⟩ := HM18.out.cells (.tail _ (.tail _ (.tail _ (.tail _ (.tail _ (.tail _ (.tail _ (.tail _ (.tail _ (.head _))))))))))
  go_wp2_with fail
  refine (M1.out _ _ _ HM18.out.1 (HM18.out.own (.tail _ (.tail _ (.tail _ (.head _)))))).mono ?_
  rintro e W19 ⟨rfl, hR, hB, hk⟩
  have HM19 := Lib.hid (Mem.mark (bf := [_, _, _]) HM18.out hR hB hk)
  clear hR hB hk HM18
  clear cb12a cb12b cb12c cb10a cb10b cb10c cb8a cb8b cb8c cb6a cb6b cb6c cb1a cb1b cb1c cb0a cb0b cb0c
  obtain ⟨cb12a, cb12b, cb12c⟩ := HM19.out.cells (.head _)
  obtain ⟨cb10a, cb10b, cb10c⟩ := HM19.out.cells (.tail _ (.tail _ (.head _)))
  obtain ⟨cb8a, cb8b, cb8c⟩ := HM19.out.cells (.tail _ (.tail _ (.tail _ (.tail _ (.head _)))))
  obtain ⟨cb6a, cb6b, cb6c⟩ := HM19.out.cells (.tail _ (.tail _ (.tail _ (.tail _ (.tail _ (.tail _ (.head _)))))))
  obtain ⟨cb1a, cb1b, cb1c⟩ := HM19.out.cells (.tail _ (.tail _ (.tail _ (.tail _ (.tail _ (.tail _ (.tail _ (.tail _ (.head _)))))))))
  obtain ⟨cb0a, cb0b, cb0c⟩ := HM19.out.cells (.tail _ (.tail _ (.tail _ (.tail _ (.tail _ (.tail _ (.tail _ (.tail _ (.tail _ (.head _))))))))))
  go_wp2_with fail
  refine (EG.out _ _ _ _ _ (HM19.out.reads (.tail _ (.head _))).1 (HM19.out.reads (.tail _ (.head _))).2 (HM19.out.reads (.tail _ (.tail _ (.tail _ (.tail _ (.tail _ (.tail _ (.tail _ (.head _))))))))).1 (HM19.out.reads (.tail _ (.tail _ (.tail _ (.tail _ (.tail _ (.tail _ (.tail _ (.head _))))))))).2).mono ?_
  rintro e W20 ⟨rfl, hb⟩
  have HM20 := Lib.hid (Mem.below HM19.out hb)
  clear hb HM19
  clear cb12a cb12b cb12c cb10a cb10b cb10c cb8a cb8b cb8c cb6a cb6b cb6c cb1a cb1b cb1c cb0a cb0b cb0c
  obtain ⟨cb12a, cb12b, cb12c⟩ := HM20.out.cells (.head _)
  obtain ⟨cb10a, cb10b, cb10c⟩ := HM20.out.cells (.tail _ (.tail _ (.head _)))
  obtain ⟨cb8a, cb8b, cb8c⟩ := HM20.out.cells (.tail _ (.tail _ (.tail _ (.tail _ (.head _)))))
  obtain ⟨cb6a, cb6b, cb6c⟩ := HM20.out.cells (.tail _ (.tail _ (.tail _ (.tail _ (.tail _ (.tail _ (.head _)))))))
  obtain ⟨cb1a, cb1b, cb1c⟩ := HM20.out.cells (.tail _ (.tail _ (.tail _ (.tail _ (.tail _ (.tail _ (.tail _ (.tail _ (.head _)))))))))
  obtain ⟨cb0a, cb0b, cb0c⟩ := HM20.out.cells (.tail _ (.tail _ (.tail _ (.tail _ (.tail _ (.tail _ (.tail _ (.tail _ (.tail _ (.head _))))))))))
  go_wp2_with fail
  refine (MG.out _ _ _ HM20.out.1 (HM20.out.own (.tail _ (.head _)))).mono ?_
  rintro e W21 ⟨rfl, hR, hB, hk⟩
  have HM21 := Lib.hid (Mem.mark (bf := [_]) HM20.out hR hB hk)
  clear hR hB hk HM20
  clear cb12a cb12b cb12c cb10a cb10b cb10c cb8a cb8b cb8c cb6a cb6b cb6c cb1a cb1b cb1c cb0a cb0b cb0c
  obtain ⟨cb12a, cb12b, cb12c⟩ := HM21.out.cells (.head _)
  obtain ⟨cb10a, cb10b, cb10c⟩ := HM21.out.cells (.tail _ (.tail _ (.head _)))
  obtain ⟨cb8a, cb8b, cb8c⟩ := HM21.out.cells (.tail _ (.tail _ (.tail _ (.tail _ (.head _)))))
  obtain ⟨cb6a, cb6b, cb6c⟩ := HM21.out.cells (.tail _ (.tail _ (.tail _ (.tail _ (.tail _ (.tail _ (.head _)))))))
  obtain ⟨cb1a, cb1b, cb1c⟩ := HM21.out.cells (.tail _ (.tail _ (.tail _ (.tail _ (.tail _ (.tail _ (.tail _ (.tail _ (.head _)))))))))
  obtain ⟨cb0a, cb0b, cb0c⟩ := HM21.out.cells (.tail _ (.tail _ (.tail _ (.tail _ (.tail _ (.tail _ (.tail _ (.tail _ (.tail _ (.head _))))))))))
  go_wp2_with fail
  refine (HG.out _ _ _ _ (HM21.out.len (.tail _ (.head _))) (HM21.out.reads (.tail _ (.head _))).1 (HM21.out.reads (.tail _ (.head _))).2).mono ?_
  rintro e W22 ⟨rfl, hb⟩
  have HM22 := Lib.hid (Mem.below HM21.out hb)
  clear hb HM21
  clear cb12a cb12b cb12c cb10a cb10b cb10c cb8a cb8b cb8c cb6a cb6b cb6c cb1a cb1b cb1c cb0a cb0b cb0c
  obtain ⟨cb12a, cb12b, cb12c⟩ := HM22.out.cells (.head _)
  obtain ⟨cb10a, cb10b, cb10c⟩ := HM22.out.cells (.tail _ (.tail _ (.head _)))
  obtain ⟨cb8a, cb8b, cb8c⟩ := HM22.out.cells (.tail _ (.tail _ (.tail _ (.tail _ (.head _)))))
  obtain ⟨cb6a, cb6b, cb6c⟩ := HM22.out.cells (.tail _ (.tail _ (.tail _ (.tail _ (.tail _ (.tail _ (.head _)))))))
  obtain ⟨cb1a, cb1b, cb1c⟩ := HM22.out.cells (.tail _ (.tail _ (.tail _ (.tail _ (.tail _ (.tail _ (.tail _ (.tail _ (.head _)))))))))
  obtain ⟨cb0a, cb0b, cb0c⟩ := HM22.out.cells (.tail _ (.tail _ (.tail _ (.tail _ (.tail _ (.tail _ (.tail _ (.tail _ (.tail _ (.head _))))))))))
  go_wp2_with fail
  have T0a := T0
  have T1a := T1
  go_upto_region 31 with fail
  obtain ⟨ES, hES0, hES⟩ := HM22.out.list
  have HES := Lib.hid hES
  clear hES hES0
  go_cut [15, 16] (fun v6 v7 wc => v7 = .int .i64 cd ∧ ∃ (bz : Nat) (Az : Option Addr) (dz lo hi : Nat), v6 = .pointer (some ⟨bz, 0, none⟩) ∧ Hid (Mem w wc (.box bz 28 g (.slice Az gl.length dz) :: .row (.slice Az gl.length dz) gl lo hi :: ES)))
  case first =>
    obtain rfl := HES.out
    clear HES
    go_region_held3 (fun w' => w'.cell? ⟨b0, 0, none⟩ = some (.int .i64 s0) ∧ w'.cell? ⟨b0, 1, none⟩ = some (.slice A0 l0.length c0) ∧ w'.cell? ⟨b1, 0, none⟩ = some (.int .i64 s1) ∧ w'.cell? ⟨b1, 1, none⟩ = some (.slice A1 l1.length c1)) (go_keep)
      (first
        | (go_at_call 19; refine (T0a.out _ (by first | exact (Mem.drew HM22.out).1 | exact (Mem.drew (Mem.box HM22.out 28 0 (.slice none 0 0))).1 | exact (Mem.box (Mem.drew HM22.out) 28 0 (.slice none 0 0)).1)).mono ?_; rintro e W23 ⟨u3, rfl, hR, hb⟩; obtain ⟨A3, d3, rfl⟩ := Kd.R_slice hR; (first | (have HM23 := Lib.hid (Mem.row (Mem.drew HM22.out) hR hb)) | (have HM23 := Lib.hid (Mem.row (Mem.drew (Mem.box HM22.out 28 0 (.slice none 0 0))) hR hb); have ZB2 := Lib.hid True.intro) | (have HM23 := Lib.hid (Mem.row (Mem.box (Mem.drew HM22.out) 28 0 (.slice none 0 0)) hR hb); have ZB2 := Lib.hid True.intro)); (first | (obtain ⟨p3a, p3b, p3c⟩ := HM23.out.cells (b := b0) (t := 24) (s := s0) (u := .slice A0 l0.length c0) (.tail _ (.tail _ (.tail _ (.tail _ (.tail _ (.tail _ (.tail _ (.tail _ (.tail _ (.tail _ (.head _))))))))))); obtain ⟨q3a, q3b, q3c⟩ := HM23.out.cells (b := b1) (t := 24) (s := s1) (u := .slice A1 l1.length c1) (.tail _ (.tail _ (.tail _ (.tail _ (.tail _ (.tail _ (.tail _ (.tail _ (.tail _ (.head _))))))))))) | (obtain ⟨p3a, p3b, p3c⟩ := HM23.out.cells (b := b0) (t := 24) (s := s0) (u := .slice A0 l0.length c0) (.tail _ (.tail _ (.tail _ (.tail _ (.tail _ (.tail _ (.tail _ (.tail _ (.tail _ (.tail _ (.tail _ (.head _)))))))))))); obtain ⟨q3a, q3b, q3c⟩ := HM23.out.cells (b := b1) (t := 24) (s := s1) (u := .slice A1 l1.length c1) (.tail _ (.tail _ (.tail _ (.tail _ (.tail _ (.tail _ (.tail _ (.tail _ (.tail _ (.tail _ (.head _))))))))))))); clear hR hb T0a)
        | (go_at_call 19; refine (T1a.out _ (by first | exact HM23.out.1 | exact (Mem.box HM23.out 28 0 (.slice none 0 0)).1)).mono ?_; rintro e W24 ⟨u4, rfl, hR, hb⟩; obtain ⟨A4, d4, rfl⟩ := Kd.R_slice hR; (first | (have HM24 := Lib.hid (Mem.row HM23.out hR hb)) | (have HM24 := Lib.hid (Mem.row (Mem.box HM23.out 28 0 (.slice none 0 0)) hR hb); have ZB3 := Lib.hid True.intro)); (first | (obtain ⟨p4a, p4b, p4c⟩ := HM24.out.cells (b := b0) (t := 24) (s := s0) (u := .slice A0 l0.length c0) (.tail _ (.tail _ (.tail _ (.tail _ (.tail _ (.tail _ (.tail _ (.tail _ (.tail _ (.tail _ (.tail _ (.head _)))))))))))); obtain ⟨q4a, q4b, q4c⟩ := HM24.out.cells (b := b1) (t := 24) (s := s1) (u := .slice A1 l1.length c1) (.tail _ (.tail _ (.tail _ (.tail _ (.tail _ (.tail _ (.tail _ (.tail _ (.tail _ (.tail _ (.head _)))))))))))) | (obtain ⟨p4a, p4b, p4c⟩ := HM24.out.cells (b := b0) (t := 24) (s := s0) (u := .slice A0 l0.length c0) (.tail _ (.tail _ (.tail _ (.tail _ (.tail _ (.tail _ (.tail _ (.tail _ (.tail _ (.tail _ (.tail _ (.tail _ (.head _))))))))))))); obtain ⟨q4a, q4b, q4c⟩ := HM24.out.cells (b := b1) (t := 24) (s := s1) (u := .slice A1 l1.length c1) (.tail _ (.tail _ (.tail _ (.tail _ (.tail _ (.tail _ (.tail _ (.tail _ (.tail _ (.tail _ (.tail _ (.head _)))))))))))))); clear hR hb T1a)
        | (go_at_call 37; (first | (have HZ := HM24; refine (IM.out _ _ _ _ _ (HZ.out.reads (A := A3) (c := d3) (n := l0.length) (l := l0) (by first | exact .head _ | exact .tail _ (.head _) | exact .tail _ (.tail _ (.head _)) | exact .tail _ (.tail _ (.tail _ (.head _))))).1 (HZ.out.reads (A := A3) (c := d3) (n := l0.length) (l := l0) (by first | exact .head _ | exact .tail _ (.head _) | exact .tail _ (.tail _ (.head _)) | exact .tail _ (.tail _ (.tail _ (.head _))))).2 (HZ.out.reads (A := A4) (c := d4) (n := l1.length) (l := l1) (by first | exact .head _ | exact .tail _ (.head _) | exact .tail _ (.tail _ (.head _)) | exact .tail _ (.tail _ (.tail _ (.head _))))).1 (HZ.out.reads (A := A4) (c := d4) (n := l1.length) (l := l1) (by first | exact .head _ | exact .tail _ (.head _) | exact .tail _ (.tail _ (.head _)) | exact .tail _ (.tail _ (.tail _ (.head _))))).2).mono ?_) | (have HZ := Lib.hid (Mem.box HM24.out 28 0 (.slice none 0 0)); have ZB4 := Lib.hid True.intro; refine (IM.out _ _ _ _ _ (HZ.out.reads (A := A3) (c := d3) (n := l0.length) (l := l0) (by first | exact .head _ | exact .tail _ (.head _) | exact .tail _ (.tail _ (.head _)) | exact .tail _ (.tail _ (.tail _ (.head _))))).1 (HZ.out.reads (A := A3) (c := d3) (n := l0.length) (l := l0) (by first | exact .head _ | exact .tail _ (.head _) | exact .tail _ (.tail _ (.head _)) | exact .tail _ (.tail _ (.tail _ (.head _))))).2 (HZ.out.reads (A := A4) (c := d4) (n := l1.length) (l := l1) (by first | exact .head _ | exact .tail _ (.head _) | exact .tail _ (.tail _ (.head _)) | exact .tail _ (.tail _ (.tail _ (.head _))))).1 (HZ.out.reads (A := A4) (c := d4) (n := l1.length) (l := l1) (by first | exact .head _ | exact .tail _ (.head _) | exact .tail _ (.tail _ (.head _)) | exact .tail _ (.tail _ (.tail _ (.head _))))).2).mono ?_)); rintro e W25 ⟨u5, rfl, hR, hb⟩; obtain ⟨A5, d5, rfl⟩ := Kd.R_slice hR; have HM25 := Lib.hid (Mem.row HZ.out hR hb); (first | (obtain ⟨p5a, p5b, p5c⟩ := HM25.out.cells (b := b0) (t := 24) (s := s0) (u := .slice A0 l0.length c0) (.tail _ (.tail _ (.tail _ (.tail _ (.tail _ (.tail _ (.tail _ (.tail _ (.tail _ (.tail _ (.tail _ (.tail _ (.head _))))))))))))); obtain ⟨q5a, q5b, q5c⟩ := HM25.out.cells (b := b1) (t := 24) (s := s1) (u := .slice A1 l1.length c1) (.tail _ (.tail _ (.tail _ (.tail _ (.tail _ (.tail _ (.tail _ (.tail _ (.tail _ (.tail _ (.tail _ (.head _))))))))))))) | (obtain ⟨p5a, p5b, p5c⟩ := HM25.out.cells (b := b0) (t := 24) (s := s0) (u := .slice A0 l0.length c0) (.tail _ (.tail _ (.tail _ (.tail _ (.tail _ (.tail _ (.tail _ (.tail _ (.tail _ (.tail _ (.tail _ (.tail _ (.tail _ (.head _)))))))))))))); obtain ⟨q5a, q5b, q5c⟩ := HM25.out.cells (b := b1) (t := 24) (s := s1) (u := .slice A1 l1.length c1) (.tail _ (.tail _ (.tail _ (.tail _ (.tail _ (.tail _ (.tail _ (.tail _ (.tail _ (.tail _ (.tail _ (.tail _ (.head _))))))))))))))); (first | (have zz := ZB4; obtain ⟨z0, z1, z2⟩ := HM25.out.cells (b := W24.heap.size) (t := 28) (s := 0) (u := .slice none 0 0) (by first | exact .head _ | exact .tail _ (.head _) | exact .tail _ (.tail _ (.head _)) | exact .tail _ (.tail _ (.tail _ (.head _))) | exact .tail _ (.tail _ (.tail _ (.tail _ (.head _)))) | exact .tail _ (.tail _ (.tail _ (.tail _ (.tail _ (.head _)))))); obtain ⟨zf0, zf1⟩ := HM25.out.lts (b := W24.heap.size) (t := 28) (s := 0) (u := .slice none 0 0) (by first | exact .head _ | exact .tail _ (.head _) | exact .tail _ (.tail _ (.head _)) | exact .tail _ (.tail _ (.tail _ (.head _))) | exact .tail _ (.tail _ (.tail _ (.tail _ (.head _)))) | exact .tail _ (.tail _ (.tail _ (.tail _ (.tail _ (.head _)))))); have zn0 := Nat.ne_of_lt p4c; have zn1 := Nat.ne_of_lt q4c; have zm0 := Ne.symm zn0; have zm1 := Ne.symm zn1) | (have zz := ZB3; obtain ⟨z0, z1, z2⟩ := HM25.out.cells (b := W23.heap.size) (t := 28) (s := 0) (u := .slice none 0 0) (by first | exact .head _ | exact .tail _ (.head _) | exact .tail _ (.tail _ (.head _)) | exact .tail _ (.tail _ (.tail _ (.head _))) | exact .tail _ (.tail _ (.tail _ (.tail _ (.head _)))) | exact .tail _ (.tail _ (.tail _ (.tail _ (.tail _ (.head _)))))); obtain ⟨zf0, zf1⟩ := HM25.out.lts (b := W23.heap.size) (t := 28) (s := 0) (u := .slice none 0 0) (by first | exact .head _ | exact .tail _ (.head _) | exact .tail _ (.tail _ (.head _)) | exact .tail _ (.tail _ (.tail _ (.head _))) | exact .tail _ (.tail _ (.tail _ (.tail _ (.head _)))) | exact .tail _ (.tail _ (.tail _ (.tail _ (.tail _ (.head _)))))); have zn0 := Nat.ne_of_lt p3c; have zn1 := Nat.ne_of_lt q3c; have zm0 := Ne.symm zn0; have zm1 := Ne.symm zn1) | (have zz := ZB2; obtain ⟨z0, z1, z2⟩ := HM25.out.cells (b := W22.heap.size) (t := 28) (s := 0) (u := .slice none 0 0) (by first | exact .head _ | exact .tail _ (.head _) | exact .tail _ (.tail _ (.head _)) | exact .tail _ (.tail _ (.tail _ (.head _))) | exact .tail _ (.tail _ (.tail _ (.tail _ (.head _)))) | exact .tail _ (.tail _ (.tail _ (.tail _ (.tail _ (.head _)))))); obtain ⟨zf0, zf1⟩ := HM25.out.lts (b := W22.heap.size) (t := 28) (s := 0) (u := .slice none 0 0) (by first | exact .head _ | exact .tail _ (.head _) | exact .tail _ (.tail _ (.head _)) | exact .tail _ (.tail _ (.tail _ (.head _))) | exact .tail _ (.tail _ (.tail _ (.tail _ (.head _)))) | exact .tail _ (.tail _ (.tail _ (.tail _ (.tail _ (.head _)))))); have zn0 := Nat.ne_of_lt cb0c; have zn1 := Nat.ne_of_lt cb1c; have zm0 := Ne.symm zn0; have zm1 := Ne.symm zn1) | skip); clear hR hb))
    all_goals go_wp2_with fail
    all_goals go_meet
    all_goals first
      | exact ⟨rfl, _, A5, d5, _, _, rfl, Lib.hid ((Mem.box HM25.out _ _ _).sub (List.Sublist.cons_cons _ (List.Sublist.cons_cons _ (List.Sublist.cons _ (List.Sublist.cons _ (List.Sublist.refl _))))))⟩
      | exact ⟨rfl, _, A5, d5, _, _, rfl, Lib.hid (((Mem.fill (bf := [_]) HM25.out HM24.out.1.size).sub (List.Sublist.cons_cons _ (List.Sublist.cons_cons _ (List.Sublist.cons _ (List.Sublist.cons _ (List.Sublist.refl _)))))).swap)⟩
      | exact ⟨rfl, _, A5, d5, _, _, rfl, Lib.hid (((Mem.fill (bf := [_, _]) HM25.out HM23.out.1.size).sub (List.Sublist.cons_cons _ (List.Sublist.cons _ (List.Sublist.cons_cons _ (List.Sublist.cons _ (List.Sublist.refl _)))))).swap)⟩
      | exact ⟨rfl, _, A5, d5, _, _, rfl, Lib.hid (((Mem.fill (bf := [_, _, _]) HM25.out HM22.out.1.size).sub (List.Sublist.cons_cons _ (List.Sublist.cons _ (List.Sublist.cons _ (List.Sublist.cons_cons _ (List.Sublist.refl _)))))).swap)⟩
  case rest =>
  obtain rfl := HES.out
  clear HES
  clear cb12a cb12b cb12c cb10a cb10b cb10c cb8a cb8b cb8c cb6a cb6b cb6c cb1a cb1b cb1c cb0a cb0b cb0c
  clear HM22 T0a T1a
  obtain ⟨rfl, b26, A26, d26, lo26, hi26, rfl, HM26⟩ := hcut
  obtain ⟨cb26a, cb26b, cb26c⟩ := HM26.out.cells (.head _)
  obtain ⟨cb12a, cb12b, cb12c⟩ := HM26.out.cells (.tail _ (.tail _ (.head _)))
  obtain ⟨cb10a, cb10b, cb10c⟩ := HM26.out.cells (.tail _ (.tail _ (.tail _ (.tail _ (.head _)))))
  obtain ⟨cb8a, cb8b, cb8c⟩ := HM26.out.cells (.tail _ (.tail _ (.tail _ (.tail _ (.tail _ (.tail _ (.head _)))))))
  obtain ⟨cb6a, cb6b, cb6c⟩ := HM26.out.cells (.tail _ (.tail _ (.tail _ (.tail _ (.tail _ (.tail _ (.tail _ (.tail _ (.head _)))))))))
  obtain ⟨cb1a, cb1b, cb1c⟩ := HM26.out.cells (.tail _ (.tail _ (.tail _ (.tail _ (.tail _ (.tail _ (.tail _ (.tail _ (.tail _ (.tail _ (.head _)))))))))))
  obtain ⟨cb0a, cb0b, cb0c⟩ := HM26.out.cells (.tail _ (.tail _ (.tail _ (.tail _ (.tail _ (.tail _ (.tail _ (.tail _ (.tail _ (.tail _ (.tail _ (.head _))))))))))))
  go_wp2_with fail
  refine (EG.out _ _ _ _ _ (HM26.out.reads (.tail _ (.head _))).1 (HM26.out.reads (.tail _ (.head _))).2 (HM26.out.reads (.tail _ (.tail _ (.tail _ (.tail _ (.tail _ (.tail _ (.tail _ (.tail _ (.tail _ (.head _))))))))))).1 (HM26.out.reads (.tail _ (.tail _ (.tail _ (.tail _ (.tail _ (.tail _ (.tail _ (.tail _ (.tail _ (.head _))))))))))).2).mono ?_
  rintro e W27 ⟨rfl, hb⟩
  have HM27 := Lib.hid (Mem.below HM26.out hb)
  clear hb HM26
  clear cb26a cb26b cb26c cb12a cb12b cb12c cb10a cb10b cb10c cb8a cb8b cb8c cb6a cb6b cb6c cb1a cb1b cb1c cb0a cb0b cb0c
  obtain ⟨cb26a, cb26b, cb26c⟩ := HM27.out.cells (.head _)
  obtain ⟨cb12a, cb12b, cb12c⟩ := HM27.out.cells (.tail _ (.tail _ (.head _)))
  obtain ⟨cb10a, cb10b, cb10c⟩ := HM27.out.cells (.tail _ (.tail _ (.tail _ (.tail _ (.head _)))))
  obtain ⟨cb8a, cb8b, cb8c⟩ := HM27.out.cells (.tail _ (.tail _ (.tail _ (.tail _ (.tail _ (.tail _ (.head _)))))))
  obtain ⟨cb6a, cb6b, cb6c⟩ := HM27.out.cells (.tail _ (.tail _ (.tail _ (.tail _ (.tail _ (.tail _ (.tail _ (.tail _ (.head _)))))))))
  obtain ⟨cb1a, cb1b, cb1c⟩ := HM27.out.cells (.tail _ (.tail _ (.tail _ (.tail _ (.tail _ (.tail _ (.tail _ (.tail _ (.tail _ (.tail _ (.head _)))))))))))
  obtain ⟨cb0a, cb0b, cb0c⟩ := HM27.out.cells (.tail _ (.tail _ (.tail _ (.tail _ (.tail _ (.tail _ (.tail _ (.tail _ (.tail _ (.tail _ (.tail _ (.head _))))))))))))
  go_wp2_with fail
  refine (HG.out _ _ _ _ (HM27.out.len (.tail _ (.tail _ (.tail _ (.head _))))) (HM27.out.reads (.tail _ (.tail _ (.tail _ (.head _))))).1 (HM27.out.reads (.tail _ (.tail _ (.tail _ (.head _))))).2).mono ?_
  rintro e W28 ⟨rfl, hb⟩
  have HM28 := Lib.hid (Mem.below HM27.out hb)
  clear hb HM27
  clear cb26a cb26b cb26c cb12a cb12b cb12c cb10a cb10b cb10c cb8a cb8b cb8c cb6a cb6b cb6c cb1a cb1b cb1c cb0a cb0b cb0c
  obtain ⟨cb26a, cb26b, cb26c⟩ := HM28.out.cells (.head _)
  obtain ⟨cb12a, cb12b, cb12c⟩ := HM28.out.cells (.tail _ (.tail _ (.head _)))
  obtain ⟨cb10a, cb10b, cb10c⟩ := HM28.out.cells (.tail _ (.tail _ (.tail _ (.tail _ (.head _)))))
  obtain ⟨cb8a, cb8b, cb8c⟩ := HM28.out.cells (.tail _ (.tail _ (.tail _ (.tail _ (.tail _ (.tail _ (.head _)))))))
  obtain ⟨cb6a, cb6b, cb6c⟩ := HM28.out.cells (.tail _ (.tail _ (.tail _ (.tail _ (.tail _ (.tail _ (.tail _ (.tail _ (.head _)))))))))
  obtain ⟨cb1a, cb1b, cb1c⟩ := HM28.out.cells (.tail _ (.tail _ (.tail _ (.tail _ (.tail _ (.tail _ (.tail _ (.tail _ (.tail _ (.tail _ (.head _)))))))))))
  obtain ⟨cb0a, cb0b, cb0c⟩ := HM28.out.cells (.tail _ (.tail _ (.tail _ (.tail _ (.tail _ (.tail _ (.tail _ (.tail _ (.tail _ (.tail _ (.tail _ (.head _))))))))))))
  go_wp2
  go_ret
  exact ⟨rfl, HM28.out.1⟩
end Go.Proofs.Ytdjdnllnhonjkaa.KAddWholes
