/- FnPowers: the statement walked. -/
import Derived.Test.YtlkhkpaggkpieaaXw
import Derived.Test.YtlkhkpaggkpieaaXp0
import Derived.Test.YtlkhkpaggkpieaaXp1
import Derived.Test.YtlkhkpaggkpieaaXp2
namespace Go.Proofs.Ytlkhkpaggkpieaa
set_option maxRecDepth 100000
set_option linter.unusedVariables false
open Go.RowKit
theorem pairs (i j : Nat) (hi : i < 65) (hj : j < 65) : pairB i j = true := by
  by_cases h1 : i < 22
  · exact pairs0 ⟨i, h1⟩ ⟨j, hj⟩
  · by_cases h2 : i < 44
    · have := pairs1 ⟨i - 22, by omega⟩ ⟨j, hj⟩
      dsimp only at this
      rwa [show i - 22 + 22 = i by omega] at this
    · have := pairs2 ⟨i - 44, by omega⟩ ⟨j, hj⟩
      dsimp only at this
      rwa [show i - 44 + 44 = i by omega] at this
theorem expT_lt : ∀ i : Fin 129, expT i.val < 4294967296 := by decide +kernel
theorem up_run {x y : Nat} (h : isConv .f32 .f64 x y = true) (w : World) : (convert 22 25 (.float .f32 x)).run Try.prog w = .ok (.float .f64 y) w := run_convN (by decide) (by kernel_rfl) Try.underlying25 h w
set_option maxHeartbeats 4000000 in
theorem law_FnPowers (a b : Option Addr) (la ca lb cb : Nat) (w : World) (hA : Bs w a la) (hB : Bs w b lb) :
    Calls Try.prog 6 #[.slice a la ca, .slice b lb cb] w (RetV (.bool true) w) := by
  have HA := Lib.hid hA
  have HB := Lib.hid hB
  clear hA hB
  cases hL : (decide (1048576 < (la : Int)) || decide (1048576 < (lb : Int))) with
  | true =>
    have L := Lib.hid hL
    clear hL
    go_enter Try.func6, Try.ntmps6
    go_wp2_with (go_at_call 16; refine (laws_b10Long _ _ _ _ _ _ _).mono ?_; rw [L.out]; rintro _ _ ⟨n0, rfl, rfl⟩)
    go_ret
    exact RetV.mk rfl
  | false =>
    have L := Lib.hid hL
    clear hL
    go_enter Try.func6, Try.ntmps6
    go_wp2_with (go_at_call 16; refine (laws_b10Long _ _ _ _ _ _ _).mono ?_; rw [L.out]; rintro _ _ ⟨n0, rfl, rfl⟩)
    refine (laws_b10At a la ca 0 65 (by omega) (by omega) _ (HA.out.drewN _)).mono ?_
    rintro _ _ ⟨i, hi, n1, rfl, rfl⟩
    have hi2 : i < 65 := by omega
    have q1 := fun t w => run_float_arith (P := Try.prog) w .quo t .f32 _ _ _ (ints8 ⟨i, hi2⟩)
    dsimp only at q1
    have I := Lib.hid hi2
    have p2 := exps2 ⟨i + 32, by omega⟩
    have p3 := eighths1 ⟨i + 32, by omega⟩
    have p4 := logs2 ⟨i, hi2⟩
    simp only [Bool.and_eq_true, Bool.not_eq_true'] at p2 p3 p4
    have E1 := Lib.hid (impl_Exp8 (i + 32) (by omega))
    have L1 := Lib.hid (impl_LogNum (expT (i + 32)) (logT i) (expT_lt ⟨i + 32, by omega⟩) (cn_conv p2.1.2) (logs1 ⟨i, hi2⟩))
    have u1 := up_run p4.1
    have u2 := up_run p3.1.1
    have u3 := up_run p2.1.2
    obtain ⟨g1, hg1, hl1⟩ := gapB_is p4.2
    have G1 := Lib.hid (laws_b10Gap _ _ _ hg1)
    have f1 : (FloatKind.f64.format.order g1 4562254508917369340 == some .lt) = true := hl1
    have f2 : (FloatKind.f32.format.order (expT (i + 32)) 0 == some .gt) = true := p2.2
    clear p2 p3 p4 hg1 hl1 hi2
    go_wp2_with fail
    refine (laws_b10At b lb cb 0 65 (by omega) (by omega) _ (HB.out.drewN _)).mono ?_
    rintro _ _ ⟨j, hj, n2, rfl, rfl⟩
    have hj2 : j < 65 := by omega
    have q2 := fun t w => run_float_arith (P := Try.prog) w .quo t .f32 _ _ _ (ints8 ⟨j, hj2⟩)
    dsimp only at q2
    have p := pairs i j I.out hj2
    unfold pairB at p
    simp only [Bool.and_eq_true, beq_iff_eq] at p
    have s1 := fun t w => run_float_arith (P := Try.prog) w .add t .f32 _ _ _ p.1
    obtain ⟨m, hm, hp⟩ := forceO_is p.2
    obtain ⟨g2, hg2, hl2⟩ := gapB_is hp
    have s2 := fun t w => run_float_arith (P := Try.prog) w .mul t .f64 _ _ _ hm
    have s3 := fun t w => run_float_arith (P := Try.prog) w .mul t .f64 _ _ _ (thrs ⟨i + j, by have := I.out; omega⟩)
    have G2 := Lib.hid (laws_b10Gap _ _ _ hg2)
    have f3 : (FloatKind.f64.format.order g2 (thr (i + j)) == some .lt) = true := hl2
    have E2 := Lib.hid (impl_Exp8 (j + 32) (by omega))
    have E3 := Lib.hid (impl_Exp8 (i + j) (by have := I.out; omega))
    have p5 := exps2 ⟨j + 32, by omega⟩
    have p6 := exps2 ⟨i + j, by have := I.out; omega⟩
    simp only [Bool.and_eq_true] at p5 p6
    have u4 := up_run p5.1.2
    have u5 := up_run p6.1.2
    dsimp only at u1 u2 u3 u4 u5 s1 s2 s3 f1 f2 f3
    have E0 := Lib.hid (impl_Exp8 64 (by omega))
    rw [exp_zero.1, exp_zero.2] at E0
    have L0 := Lib.hid (impl_LogNum 1065353216 0 (by omega) (by decide) log_one)
    have f4 : (FloatKind.f32.format.order 1065353216 1065353216 == some .eq) = true := by decide
    have f5 : (FloatKind.f32.format.order 0 0 == some .eq) = true := by decide
    clear p p5 p6 hm hp hg2 hl2 hj2 I hi
    generalize eighth (i + 32) = x1 at *
    generalize eighth (j + 32) = x2 at *
    generalize eighth (i + j) = x3 at *
    generalize expT (i + 32) = e1 at *
    generalize expT (j + 32) = e2 at *
    generalize expT (i + j) = e3 at *
    generalize expW (i + 32) = e4 at *
    generalize expW (j + 32) = e5 at *
    generalize expW (i + j) = e6 at *
    generalize thr (i + j) = e7 at *
    generalize logT i = l1 at *
    generalize logW i = l2 at *
    generalize eighthW (i + 32) = l3 at *
    go_wp2_with fail
    clear hj
    refine (E1.out _).mono ?_
    rintro _ _ ⟨n3, rfl, rfl⟩
    go_wp2_with fail
    refine (E2.out _).mono ?_
    rintro _ _ ⟨n4, rfl, rfl⟩
    go_wp2_with fail
    refine (E3.out _).mono ?_
    rintro _ _ ⟨n5, rfl, rfl⟩
    go_wp2_with fail
    refine (L1.out _).mono ?_
    rintro _ _ ⟨n6, rfl, rfl⟩
    go_wp2_with fail
    refine (G1.out _).mono ?_
    rintro _ _ ⟨n7, rfl, rfl⟩
    go_wp2_with fail
    refine (G2.out _).mono ?_
    rintro _ _ ⟨n8, rfl, rfl⟩
    go_wp2_with fail
    refine (E0.out _).mono ?_
    rintro _ _ ⟨n9, rfl, rfl⟩
    go_wp2_with fail
    refine (L0.out _).mono ?_
    rintro _ _ ⟨n10, rfl, rfl⟩
    go_wp2
    go_ret
    exact RetV.mk rfl
end Go.Proofs.Ytlkhkpaggkpieaa
