/- Lemmas of the claim: Vu. -/
import Derived.Test.YtjddhnjjeomfjaaQEFh
import Derived.Test.YtjddhnjjeomfjaaQEFq
import Derived.Test.YtjddhnjjeomfjaaQEFm
import Derived.Test.YtjddhnjjeomfjaaQEFl
import Derived.Test.YtjddhnjjeomfjaaQEFg
section
set_option linter.unusedVariables false
set_option linter.unusedSimpArgs false
namespace Go.Proofs.Ytjddhnjjeomfjaa.Vu
open Go.RowKit Go.Proofs.YtjddhnjjeomfjaaW.PrintWords Go.Proofs.YtjddhnjjeomfjaaW.PrintLast Go.Proofs.YtjddhnjjeomfjaaW.PrintMore Go.Proofs.Ytjddhnjjeomfjaa.PW Go.Proofs.Ytjddhnjjeomfjaa.Pc Go.Proofs.Ytjddhnjjeomfjaa.Ln Go.Proofs.Ytjddhnjjeomfjaa.Qa Go.Proofs.Ytjddhnjjeomfjaa.Rf Go.Proofs.Ytjddhnjjeomfjaa.Vr Go.Proofs.Ytjddhnjjeomfjaa.Vt Go.Proofs.Ytjddhnjjeomfjaa.Wh Go.Proofs.Ytjddhnjjeomfjaa.Mh Fp
set_option maxHeartbeats 800000 in
theorem early0 (s0 : Int) (A0 : Option Addr) (c0 : Nat) (l0 : List Int) (e0 : Int) (n0 : Int) (w : World)
    (hr0 : Kd.C (Kd.int .i64) w A0 l0.length l0) (hc0 : l0.length ≤ c0) (hz0 : laws_szDyadic.f s0 l0 e0 1048576 = some n0) (pz0 : n0 < 0) :
    Calls Try.prog 4 #[.agg #[.int .i64 s0, .slice A0 l0.length c0, .int .i64 e0]] w fun e w' => e = .returned (.bool true) ∧ Below w.heap.size w w' := by
  have Z0 := Lib.hid (fun (W : World) (hb : Below w.heap.size w W) => laws_szDyadic.calls s0 A0 c0 l0 e0 1048576 n0 W (Kd.C_below hr0 hb) hc0 hz0)
  have HM : Hid (Mem w (w.alloc (.cells #[.int .i64 s0, .slice A0 l0.length c0, .int .i64 e0] 26)) [.box w.heap.size 26 #[.int .i64 s0, .slice A0 l0.length c0, .int .i64 e0]]) := Lib.hid ((Mem.nil w).box 26 #[.int .i64 s0, .slice A0 l0.length c0, .int .i64 e0])
  clear hr0 hc0 hz0
  go_enter Try.func4, Try.ntmps4
  go_wp2_with fail
  refine (Z0.out _ HM.out.1).mono ?_
  rintro e W1 ⟨rfl, hb⟩
  have HM1 := Lib.hid (HM.out.below hb)
  clear hb HM
  go_wp2
  go_ret
  exact ⟨rfl, HM1.out.1⟩
theorem enD_ok (s : Int) (l : List Int) (e : Int) : ((enD s l e).1 < 4294967296 ∧ nan Ieee.single (enD s l e).1 = false) ∧ (enD s l e).2.1 < 4294967296 ∧ nan Ieee.single (enD s l e).2.1 = false := by
  unfold enD
  split
  · exact ⟨rnd_ok _ _ _, rnd_ok _ _ _⟩
  · exact ⟨⟨by show (0 : Nat) < _; decide, by show nan Ieee.single 0 = false; decide⟩, by show (0 : Nat) < _; decide, by show nan Ieee.single 0 = false; decide⟩
set_option maxHeartbeats 3200000 in
set_option maxRecDepth 20000 in
theorem path (k : Nat) (s0 : Int) (A0 : Option Addr) (c0 : Nat) (l0 : List Int) (e0 : Int) (n0 : Int) (w : World)
    (hr0 : Kd.C (Kd.int .i64) w A0 l0.length l0) (hc0 : l0.length ≤ c0)
    (hz0 : laws_szDyadic.f s0 l0 e0 1048576 = some n0) (pz0 : 0 ≤ n0)
    (ht0 : laws_toDyadic.f k s0 l0 e0 = some (s0, l0, e0))
    (he0 : laws_eqDyadic.f k s0 l0 e0 s0 l0 e0 = some true) :
    Calls Try.prog 4 #[.agg #[.int .i64 s0, .slice A0 l0.length c0, .int .i64 e0]] w fun e w' => e = .returned (.bool true) ∧ Below w.heap.size w w' := by
  have Z0 := Lib.hid (fun (W : World) (hb : Below w.heap.size w W) => laws_szDyadic.calls s0 A0 c0 l0 e0 1048576 n0 W (Kd.C_below hr0 hb) hc0 hz0)
  have T0 := Lib.hid (fun (W : World) (hb : Below w.heap.size w W) => laws_toDyadic.calls k s0 A0 c0 l0 e0 s0 l0 e0 W (Kd.C_below hr0 hb) hc0 ht0)
  have hok := enD_ok s0 l0 e0
  have sp := fun (W : World) (B0 : Option Addr) (d0 : Nat) (h0 : Kd.C (Kd.int .i64) W B0 l0.length l0) (x0 : l0.length ≤ d0) => sEnclosing (s := s0) (e := e0) h0 x0
  have im := fun (W : World) (B0 : Option Addr) (d0 : Nat) (h0 : Kd.C (Kd.int .i64) W B0 l0.length l0) (x0 : l0.length ≤ d0) => iEnclosing (s := s0) (e := e0) h0 x0
  generalize enD s0 l0 e0 = r at hok sp im
  obtain ⟨g, f, cd⟩ := r
  dsimp only at hok sp im
  have SP := Lib.hid sp
  have IM := Lib.hid im
  obtain ⟨y, hy, hy1, hy2⟩ := wide_of hok.1.1 hok.1.2
  obtain ⟨x, hx, hx1, hx2⟩ := wide_of hok.2.1 hok.2.2
  have hc2 := fun w => run_convert_float_float (P := Try.prog) w 28 36 .f32 .f64 g y rfl Try.underlying36 hy
  have hc3 := fun w => run_convert_float_float (P := Try.prog) w 28 36 .f32 .f64 f x rfl Try.underlying36 hx
  have HY := Lib.hid (And.intro hy1 hy2)
  have HX := Lib.hid (And.intro hx1 hx2)
  have HSF := Lib.hid (fun (y : Nat) (h : y < 18446744073709551616 ∧ nan Ieee.double y = false) (W : World) => sameFloat_self y h.1 h.2 W)
  have E0 := Lib.hid (fun (W : World) (A : Option Addr) (c : Nat) (B : Option Addr) (d : Nat) (h0 : Kd.C (Kd.int .i64) W A l0.length l0) (hc : l0.length ≤ c) (h1 : Kd.C (Kd.int .i64) W B l0.length l0) (hd : l0.length ≤ d) => laws_eqDyadic.calls k s0 A c l0 e0 s0 B d l0 e0 true W h0 hc h1 hd he0)
  have HM : Hid (Mem w (w.alloc (.cells #[.int .i64 s0, .slice A0 l0.length c0, .int .i64 e0] 26)) [.box w.heap.size 26 #[.int .i64 s0, .slice A0 l0.length c0, .int .i64 e0]]) := Lib.hid ((Mem.nil w).box 26 #[.int .i64 s0, .slice A0 l0.length c0, .int .i64 e0])
  clear hr0 hc0 hz0 ht0 he0 hok sp im hy hy1 hy2 hx hx1 hx2
  go_enter Try.func4, Try.ntmps4
  go_wp2_with fail
  generalize hW0 : (w.alloc (.cells #[.int .i64 s0, .slice A0 l0.length c0, .int .i64 e0] 26)) = W0 at HM ⊢
  clear hW0
  generalize hB1 : w.heap.size = b0 at HM ⊢
  refine (Z0.out _ HM.out.1).mono ?_
  rintro e W11 ⟨rfl, hb⟩
  have HM11 := Lib.hid (Mem.below HM.out hb)
  clear hb HM
  obtain ⟨cb0a, cb0b, cb0e, cb0c⟩ := HM11.out.cells3 (.head _)
  go_wp2_with fail
  refine (T0.out _ HM11.out.1).mono ?_
  rintro e W12 ⟨u12, rfl, hR, hb⟩
  obtain ⟨A12, d12, rfl⟩ := Kd.R_slice hR
  have HM12 := Lib.hid (Mem.row HM11.out hR hb)
  clear hR hb HM11
  clear cb0a cb0b cb0e cb0c
  go_wp2_with fail
  refine (SP.out _ _ _ (HM12.out.reads (.head _)).1 (HM12.out.reads (.head _)).2).mono ?_
  rintro e W13 ⟨rfl, hb⟩
  have HM13 := Lib.hid (Mem.below HM12.out hb)
  clear hb HM12
  obtain ⟨cb0a, cb0b, cb0e, cb0c⟩ := HM13.out.cells3 (.tail _ (.head _))
  go_wp2_with fail
  refine (T0.out _ HM13.out.1).mono ?_
  rintro e W15 ⟨u15, rfl, hR, hb⟩
  obtain ⟨A15, d15, rfl⟩ := Kd.R_slice hR
  have HM15 := Lib.hid (Mem.row HM13.out hR hb)
  clear hR hb HM13
  clear cb0a cb0b cb0e cb0c
  obtain ⟨cb0a, cb0b, cb0e, cb0c⟩ := HM15.out.cells3 (.tail _ (.tail _ (.head _)))
  go_wp2_with fail
  have HM16 := Lib.hid (Mem.box HM15.out 33 #[.int .i64 s0, .slice A15 l0.length d15, .int .i64 e0])
  clear HM15
  generalize hW : W15.alloc (.cells #[.int .i64 s0, .slice A15 l0.length d15, .int .i64 e0] 33) = W16 at HM16 ⊢
  clear hW
  generalize hb : W15.heap.size = b16 at HM16 ⊢
  refine (IM.out _ _ _ (HM16.out.reads (.tail _ (.head _))).1 (HM16.out.reads (.tail _ (.head _))).2).mono ?_
  rintro e W17 ⟨rfl, hb⟩
  have HM17 := Lib.hid (Mem.below HM16.out hb)
  clear hb HM16
  clear cb0a cb0b cb0e cb0c
  obtain ⟨cb16a, cb16b, cb16e, cb16c⟩ := HM17.out.cells3 (.head _)
  obtain ⟨cb0a, cb0b, cb0e, cb0c⟩ := HM17.out.cells3 (.tail _ (.tail _ (.tail _ (.head _))))
  go_wp2_with (first | (go_at_call 14; refine (HSF.out _ (by first | exact HY.out | exact HX.out) _).mono ?_; rintro e w' ⟨rfl, rfl⟩))
  have TX := T0
  go_region_held3 (fun w' => w'.cell? ⟨b16, 0, none⟩ = some (.int .i64 s0) ∧ w'.cell? ⟨b16, 1, none⟩ = some (.slice A15 l0.length d15) ∧ w'.cell? ⟨b16, 2, none⟩ = some (.int .i64 e0) ∧ w'.cell? ⟨b0, 0, none⟩ = some (.int .i64 s0) ∧ w'.cell? ⟨b0, 1, none⟩ = some (.slice A0 l0.length c0) ∧ w'.cell? ⟨b0, 2, none⟩ = some (.int .i64 e0)) (go_keep)
    (first
      | (go_at_call 12; refine (TX.out _ (Mem.drew HM17.out).1).mono ?_; rintro e W20 ⟨u20, rfl, hR, hb⟩; obtain ⟨A20, d20, rfl⟩ := Kd.R_slice hR; have HM20 := Lib.hid (Mem.row (Mem.drew HM17.out) hR hb); obtain ⟨cb16a, cb16b, cb16e, cb16c⟩ := HM20.out.cells3 (.tail _ (.head _)); obtain ⟨cb0a, cb0b, cb0e, cb0c⟩ := HM20.out.cells3 (.tail _ (.tail _ (.tail _ (.tail _ (.head _))))); clear hR hb TX)
      | (go_at_call 15; refine (E0.out _ _ _ _ _ (HM20.out.reads (.tail _ (.tail _ (.head _)))).1 (HM20.out.reads (.tail _ (.tail _ (.head _)))).2 (HM20.out.reads (.head _)).1 (HM20.out.reads (.head _)).2).mono ?_; rintro e W21 ⟨rfl, hb⟩; have HM21 := Lib.hid (Mem.below HM20.out hb).tail; obtain ⟨cb16a, cb16b, cb16e, cb16c⟩ := HM21.out.cells3 (.head _); obtain ⟨cb0a, cb0b, cb0e, cb0c⟩ := HM21.out.cells3 (.tail _ (.tail _ (.tail _ (.head _)))); clear hb))
  go_wp2
  go_ret
  exact ⟨rfl, HM21.out.1⟩
theorem walk (W : World) (s0 : Int) (u0 : Value) (l0 : List Int) (e0 : Int) (_ : (Lit.int .i64 s0).wf = true) (_ : (Lit.int .i64 e0).wf = true) (r0 : Rk.Row .i64 W u0 l0) :
    Calls Try.prog 4 #[.agg #[.int .i64 s0, u0, .int .i64 e0]] W fun e w' => e = .returned (.bool true) ∧ Below W.heap.size W w' := by
  obtain ⟨A0, c0, rfl, hC0, hc0, hm0, _⟩ := r0
  unfold maxLen at hm0
  by_cases h0 : (l0.length : Int) ≤ 1048576
  · have z0 := szD_le s0 l0 e0 1048576 h0 (by omega)
    obtain ⟨K1, ht0⟩ := toDyadic s0 l0 e0 (by omega)
    obtain ⟨K3, he0⟩ := eqDyadic_self s0 l0 e0 (by omega)
    exact path (K1 + K3) s0 A0 c0 l0 e0 _ W hC0 hc0 z0 (by omega) (ht0 _ (by omega)) (he0 _ (by omega))
  · have z0 := szD_gt s0 l0 e0 (1048576) hm0 (by omega) (by omega) (by omega)
    exact early0 s0 A0 c0 l0 e0 _ W hC0 hc0  z0 (by decide)
end Go.Proofs.Ytjddhnjjeomfjaa.Vu
end
