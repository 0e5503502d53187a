/- What the logarithm gives on both sides. -/
import Derived.Test.YtlkhkpaggkpieaaWc
import Derived.Test.YtlkhkpaggkpieaaRt
import Derived.Test.YtlkhkpaggkpieaaLo
import Derived.Lib.Hide
namespace Go.Proofs.Ytlkhkpaggkpieaa
set_option maxRecDepth 100000
open Go.RowKit

set_option maxHeartbeats 2000000 in
theorem impl_logarithm (R : Nat) (hR1 : 3936146074321813504 ≤ R) (hR2 : R < 5183643171103440896) (w : World) :
    Calls Try.prog 40 #[.float .f64 R] w (RetF .f64 (logC R) w) := by
  go_enter Try.func40, Try.ntmps40
  go_wp2
  go_loop [0, 3] (fun x e => ∃ X n, Hid (LogRel R X n) ∧ x = .float .f64 X ∧ e = .float .f64 (fi n)) (fun x _ => upLeft x)
  case atStart => exact ⟨R, 0, LogRel.start hR1 hR2, rfl, by rw [fi_zero]⟩
  case round =>
    obtain ⟨X, n, hx, rfl, rfl⟩ := hrel
    obtain ⟨x1, x2, _, _, n1, n2⟩ := hx.out
    have ho : (FloatKind.f64.format.order X 4604930618986332160 == some .lt) = decide (X < 4604930618986332160) := lss_pos (by omega) (by omega)
    by_cases hlt : X < 4604930618986332160
    · have ht : (FloatKind.f64.format.order X 4604930618986332160 == some .lt) = true := by rw [ho]; simpa using hlt
      clear ho
      obtain ⟨Z, hZ⟩ : ∃ Z, Z = X + 4503599627370496 := ⟨_, rfl⟩
      have hm : ∀ t w, (binOp .mul t (.float .f64 X) (.float .f64 4611686018427387904)).run Try.prog w = .ok (.float .f64 Z) w := fun t w => run_float_arith w .mul t .f64 X _ _ (mul_two' X Z (by omega) (by omega) hZ)
      have HZ := Lib.hid hZ
      clear hZ
      have hs : ∀ t w, (binOp .sub t (.float .f64 (fi n)) (.float .f64 4607182418800017408)).run Try.prog w = .ok (.float .f64 (fi (n - 1))) w := fun t w => run_float_arith w .sub t .f64 _ _ _ (fi_pred n (by omega) (by omega))
      go_wp2
      go_round
      case rel => exact ⟨_, _, LogRel.twice hR1 hR2 hx.out hlt HZ.out, rfl, rfl⟩
      case measure =>
        have hZ := HZ.out
        simp only [upLeft, bitsOf]; omega
    · have ht : (FloatKind.f64.format.order X 4604930618986332160 == some .lt) = false := by rw [ho]; simpa using hlt
      clear ho
      go_wp2
      clear ht
      go_loop [0, 3] (fun x e => ∃ X n, Hid (LogRel R X n ∧ 4604930618986332160 ≤ X) ∧ x = .float .f64 X ∧ e = .float .f64 (fi n)) (fun x _ => bitsOf x)
      case atStart => exact ⟨X, n, ⟨hx.out, by omega⟩, rfl, rfl⟩
      case round =>
        clear hx x1 x2 n1 n2 hlt
        obtain ⟨Y, m, hy, rfl, rfl⟩ := hrel
        obtain ⟨⟨y1, y2, _, _, m1, m2⟩, y3⟩ := hy.out
        have ho : (FloatKind.f64.format.order Y 4609434218613702656 == some .gt || FloatKind.f64.format.order Y 4609434218613702656 == some .eq) = decide (4609434218613702656 ≤ Y) := geq_pos (by omega) (by omega)
        by_cases hge : 4609434218613702656 ≤ Y
        · have ht : (FloatKind.f64.format.order Y 4609434218613702656 == some .gt || FloatKind.f64.format.order Y 4609434218613702656 == some .eq) = true := by rw [ho]; simpa using hge
          clear ho
          obtain ⟨Z, hZ⟩ : ∃ Z, Y = Z + 4503599627370496 := exists_half Y (by omega)
          have hm : ∀ t w, (binOp .quo t (.float .f64 Y) (.float .f64 4611686018427387904)).run Try.prog w = .ok (.float .f64 Z) w := fun t w => run_float_arith w .quo t .f64 Y _ _ (div_two' Y Z (by omega) (by omega) hZ)
          have HZ := Lib.hid hZ
          clear hZ
          have hs : ∀ t w, (binOp .add t (.float .f64 (fi m)) (.float .f64 4607182418800017408)).run Try.prog w = .ok (.float .f64 (fi (m + 1))) w := fun t w => run_float_arith w .add t .f64 _ _ _ (fi_succ m (by omega) (by omega))
          go_wp2
          go_round
          case rel => exact ⟨_, _, ⟨LogRel.half hR1 hR2 hy.out.1 hge HZ.out, by have := HZ.out; omega⟩, rfl, rfl⟩
          case measure =>
            have hZ := HZ.out
            simp only [bitsOf]; omega
        · have ht : (FloatKind.f64.format.order Y 4609434218613702656 == some .gt || FloatKind.f64.format.order Y 4609434218613702656 == some .eq) = false := by rw [ho]; simpa using hge
          clear ho
          have HE := Lib.hid (LogRel.end hy.out.1 hy.out.2 (by omega))
          have c1 : cn .f64 Y = some Y := cn64 (by omega)
          have c2 := fi_cn m (by omega) (by omega)
          have C := Lib.hid (And.intro c1 c2)
          clear c1 c2 y1 y2 y3 m1 m2 hge
          go_wp2_with (((first | with_reducible refine up_add _ _ _ _ _ ?_ | with_reducible refine up_sub _ _ _ _ _ ?_ | with_reducible refine up_mul _ _ _ _ _ ?_ | with_reducible refine up_quo _ _ _ _ _ ?_)); intro r nd hr)
          go_loopw [6, 7] (fun q k wr => ∃ (j : Nat) (rq kk nq : Nat), j ≤ 13 ∧ k = .float .f64 kk ∧ q = .float .f64 rq ∧ Hid (kk = fi (25 - 2 * (j : Int)) ∧ FE .f64 rq (polyQ (cn .f64 r) j)) ∧ wr = w.drewN nq) (fun _ k _ => kLeft k)
          case atStart => exact ⟨0, 0, _, _, by omega, rfl, rfl, ⟨by decide, ⟨cn_zero64, by decide⟩⟩, rfl⟩
          case round =>
            obtain ⟨j, rq, kk, nq, hj, rfl, rfl, hk, rfl⟩ := hrel
            by_cases hj2 : j < 13
            · have hb := (k_facts j kk hj2 hk.out.1)
              have hb1 := hb.1
              have hs : ∀ t w, (binOp .sub t (.float .f64 kk) (.float .f64 4611686018427387904)).run Try.prog w = .ok (.float .f64 (fi (25 - 2 * ((j + 1 : Nat) : Int)))) w := fun t w => run_float_arith w .sub t .f64 _ _ _ hb.2.1
              have HB := Lib.hid hb
              clear hb
              obtain ⟨k2, hk2⟩ : ∃ k2, k2 = fi (25 - 2 * ((j + 1 : Nat) : Int)) := ⟨_, rfl⟩
              rw [← hk2] at hs
              have HK := Lib.hid hk2
              clear hk2
              have HR := Lib.hid hr
              clear hr
              go_wp2_with (((first | with_reducible refine up_add _ _ _ _ _ ?_ | with_reducible refine up_sub _ _ _ _ _ ?_ | with_reducible refine up_mul _ _ _ _ _ ?_ | with_reducible refine up_quo _ _ _ _ _ ?_)); intro r nd hr)
              go_roundw
              case rel =>
                refine ⟨j + 1, _, _, _, by omega, rfl, rfl, ⟨HK.out, ?_⟩, rfl⟩
                refine hr.cast ?_
                go_tidy
                have hk1 := hk.out
                have hb2 := HB.out.2.2
                simp_all [FE, polyQ, one_cn]
              case measure =>
                have h1 := HB.out.2.2.2
                have h2 := HK.out
                have h3 := hk.out.1
                simp only [kLeft, h2, h3]; exact h1
            · obtain rfl : j = 13 := by omega
              have hb : (FloatKind.f64.format.order kk 4607182418800017408 == some .gt || FloatKind.f64.format.order kk 4607182418800017408 == some .eq) = false := by rw [hk.out.1]; exact fi_end
              have HR := Lib.hid hr
              clear hr
              go_wp2_with (((first | with_reducible refine up_add _ _ _ _ _ ?_ | with_reducible refine up_sub _ _ _ _ _ ?_ | with_reducible refine up_mul _ _ _ _ _ ?_ | with_reducible refine up_quo _ _ _ _ _ ?_)); intro r nd hr)
              go_ret
              refine RetF.mk (hr.cast ?_)
              go_tidy
              obtain ⟨eX, en⟩ := HE.out
              obtain ⟨c1, c2⟩ := C.out
              have hq := hk.out.2.out
              have hu := HR.out.out
              clear HE C hk HR hb
              simp_all [FE, logC, logL, one_cn, two_cn, ln2_cn]
end Go.Proofs.Ytlkhkpaggkpieaa
