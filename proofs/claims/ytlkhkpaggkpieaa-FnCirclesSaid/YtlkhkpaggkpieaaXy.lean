/- FnCircles: the statement walked. -/
import Derived.Test.YtlkhkpaggkpieaaXz
import Derived.Test.YtlkhkpaggkpieaaXu
import Derived.Test.YtlkhkpaggkpieaaXv
namespace Go.Proofs.Ytlkhkpaggkpieaa
set_option maxRecDepth 100000
set_option linter.unusedVariables false
open Go.RowKit
theorem Bs.below {w w' : World} {a : Option Addr} {n : Nat} (h : Bs w a n) (hb : Below w.heap.size w w') : Bs w' a n := fun j hj => by
  obtain ⟨ad, v, h1, h2, h3, h4⟩ := h j hj
  exact ⟨ad, v, h1, h2, h3, (hb.cell (World.block_lt_of_cell? w _ h4)).trans h4⟩
theorem ten_all (i j : Nat) (hi : i < 200) (hj : j < 200) : ∃ z, cop .mul .f32 (some (e8 i)) (some (e8 j)) = some z ∧ okh z = true ∧ (tA i : Int) + (tA j : Int) - 600 - tenC (some z) ≤ 1 ∧ tenC (some z) - ((tA i : Int) + (tA j : Int) - 600) ≤ 1 := by
  by_cases h : i ≤ j
  · exact ten_pair h (pairsT i j hi hj)
  · obtain ⟨z, h1, h2, h3, h4⟩ := ten_pair (by omega) (pairsT j i hj hi)
    exact ⟨z, by rw [cop_comm]; exact h1, h2, by omega, by omega⟩
theorem tA_le : ∀ i : Fin 200, tA i.val ≤ 600 := by decide +kernel
theorem e8_7 : e8 7 = 1065353216 ∧ tA 7 = 300 := by decide
theorem below_d {w : World} {n : Nat} : Below w.heap.size w (w.drewN n) := ⟨rfl, rfl, rfl, Nat.le_refl _, fun _ _ => rfl⟩
theorem quar_num (t : Nat) (h : ((t : Int) - 128).tmod 16 = 0) : ∃ g, GapIs (reW (t % 64)) 0 g ∧ ((FloatKind.f64.format.order g 0 != some .eq) = false ∨ (FloatKind.f64.format.order g 4607182418800017408 != some .eq) = false) := by
  have h16 : t % 16 = 0 := by
    have := Int.dvd_of_tmod_eq_zero h
    omega
  have hq := quartT ⟨t % 64 / 16, by omega⟩
  dsimp only at hq
  rw [show 16 * (t % 64 / 16) = t % 64 by omega] at hq
  unfold quarB at hq
  obtain ⟨g, hg, h⟩ := gapK_is hq
  refine ⟨g, hg, ?_⟩
  rw [Bool.or_eq_true] at h
  unfold quarB.eqB at h
  rcases h with h | h
  · left; simpa using h
  · right; simpa using h
theorem ten_call (i : Nat) (hi : i < 200) (w : World) : Calls Try.prog 25 #[.float .f32 (e8 i)] w (RetNw (.tuple #[.int .i64 ((tA i : Int) - 300), .bool true]) w) := by
  have := impl_Tenths_num (e8 i) (e8_ok ⟨i, hi⟩) w
  rwa [ten_one i hi] at this
theorem ten_call1 (w : World) : Calls Try.prog 25 #[.float .f32 1065353216] w (RetNw (.tuple #[.int .i64 0, .bool true]) w) := by
  have := ten_call 7 (by omega) w
  rwa [e8_7.1, e8_7.2] at this
theorem angle_call (w : World) : Calls Try.prog 21 #[.complex .f32 0 1065353216] w (RetNw (.float .f32 1048576000) w) :=
  impl_AngleOf_num 0 1065353216 1048576000 (by omega) (by omega) (by omega) (by omega) (by omega) angle_i w
theorem same_call (w : World) : Calls Try.prog 26 #[.float .f32 1048576000, .float .f32 0] w (RetV (.bool false) w) := by
  have := spec_SameNumber 1048576000 0 (by omega) (by omega) w
  rwa [show decide (cn .f32 1048576000 = cn .f32 0) = false by decide] at this
set_option maxHeartbeats 8000000 in
theorem law_FnCircles (a b : Option Addr) (la ca lb cb : Nat) (w : World) (hA : Bs w a la) (hB : Bs w b lb) :
    Calls Try.prog 7 #[.slice a la ca, .slice b lb cb] w (RetVB (.bool true) w) := by
  have HA := Lib.hid hA
  have HB := Lib.hid hB
  clear hA hB
  cases hL : (decide (1048576 < (la : Int)) || decide (1048576 < (lb : Int))) with
  | true =>
    have L := Lib.hid hL
    clear hL
    go_enter Try.func7, Try.ntmps7
    go_wp2_with (go_at_call 16; refine (laws_b10Long _ _ _ _ _ _ _).mono ?_; rw [L.out]; rintro _ _ ⟨n0, rfl, rfl⟩)
    go_ret
    exact ⟨rfl, below_d⟩
  | false =>
    have L := Lib.hid hL
    clear hL
    go_enter Try.func7, Try.ntmps7
    go_wp2_with (go_at_call 16; refine (laws_b10Long _ _ _ _ _ _ _).mono ?_; rw [L.out]; rintro _ _ ⟨n0, rfl, rfl⟩)
    refine (laws_b10At a la ca 0 256 (by omega) (by omega) _ (HA.out.drewN _)).mono ?_
    rintro _ _ ⟨r, hr, n1, rfl, rfl⟩
    go_wp2_with fail
    refine (laws_b10At a la ca 1 256 (by omega) (by omega) _ (HA.out.drewN _)).mono ?_
    rintro _ _ ⟨s, hs, n2, rfl, rfl⟩
    have hr2 : r < 256 := by omega
    have hs2 : s < 256 := by omega
    have q1 : ∀ t w, (binOp .quo t (.float .f64 (floatOfInt .f64 ((r : Int) - 128))) (.float .f64 4634204016564240384)).run Try.prog w = .ok (.float .f64 (dT (r + 128))) w := fun t w => by
      have := run_float_arith (P := Try.prog) w .quo t .f64 _ _ _ (quoT ⟨r + 128, by omega⟩)
      dsimp only at this
      rwa [show ((r + 128 : Nat) : Int) - 256 = (r : Int) - 128 by omega] at this
    have q2 : ∀ t w, (binOp .quo t (.float .f64 (floatOfInt .f64 ((s : Int) - 128))) (.float .f64 4634204016564240384)).run Try.prog w = .ok (.float .f64 (dT (s + 128))) w := fun t w => by
      have := run_float_arith (P := Try.prog) w .quo t .f64 _ _ _ (quoT ⟨s + 128, by omega⟩)
      dsimp only at this
      rwa [show ((s + 128 : Nat) : Int) - 256 = (s : Int) - 128 by omega] at this
    have q3 : ∀ t w, (binOp .quo t (.float .f64 (floatOfInt .f64 ((r : Int) - 128 + ((s : Int) - 128)))) (.float .f64 4634204016564240384)).run Try.prog w = .ok (.float .f64 (dT (r + s))) w := fun t w => by
      have := run_float_arith (P := Try.prog) w .quo t .f64 _ _ _ (quoT ⟨r + s, by omega⟩)
      dsimp only at this
      rwa [show ((r + s : Nat) : Int) - 256 = (r : Int) - 128 + ((s : Int) - 128) by omega] at this
    have P1 := Lib.hid (fun w => (show Calls Try.prog 12 #[.float .f64 (dT (r + 128))] w (RetV (.complex .f32 (reT (r % 64)) (imT (r % 64))) w) by
      have := impl_Phasor64 (r + 128) (by omega) w
      rwa [show (r + 128) % 64 = r % 64 by omega] at this))
    have P2 := Lib.hid (fun w => (show Calls Try.prog 12 #[.float .f64 (dT (s + 128))] w (RetV (.complex .f32 (reT (s % 64)) (imT (s % 64))) w) by
      have := impl_Phasor64 (s + 128) (by omega) w
      rwa [show (s + 128) % 64 = s % 64 by omega] at this))
    have P3 := Lib.hid (fun w => (show Calls Try.prog 12 #[.float .f64 (dT (r + s))] w (RetV (.complex .f32 (reT ((r % 64 + s % 64) % 64)) (imT ((r % 64 + s % 64) % 64))) w) by
      have := impl_Phasor64 (r + s) (by omega) w
      rwa [show (r + s) % 64 = (r % 64 + s % 64) % 64 by omega] at this))
    have bd := boundsT ⟨r % 64, Nat.mod_lt _ (by omega)⟩
    have at' := anglesT ⟨r % 64, Nat.mod_lt _ (by omega)⟩
    have aw := widesA ⟨r % 64, Nat.mod_lt _ (by omega)⟩
    have ww := widesT ⟨r % 64, Nat.mod_lt _ (by omega)⟩
    dsimp only at bd at' aw ww
    rw [Bool.and_eq_true] at ww
    have A1 := Lib.hid (fun w => impl_AngleOf_num (reT (r % 64)) (imT (r % 64)) (anT (r % 64)) bd.2.1 bd.1 bd.2.2.2.1 bd.2.2.1 bd.2.2.2.2 at' w)
    have u1 := upZ aw
    have u2 := upZ ww.1
    obtain ⟨an, u, v, n, g1, t1, t2, t3, t4, t5, t6, t7, t8, t9⟩ := turn_num r hr2
    have m1 := fun t w => run_float_arith (P := Try.prog) w .mul t .f64 _ _ _ t1
    have m2 := fun t w => run_float_arith (P := Try.prog) w .sub t .f64 _ _ _ t2
    have m3 := fun t w => run_float_arith (P := Try.prog) w .add t .f64 _ _ _ t3
    have m4 := conv_int v n t4
    have G1 := Lib.hid (laws_b10Gap _ _ _ t8)
    obtain ⟨z, wz, g2, p1, p2, p3, p4⟩ := powers_num (r % 64) (Nat.mod_lt _ (by omega))
    have W1 := Lib.hid p1
    have u3 := upZ p2
    have G2 := Lib.hid (laws_b10Gap _ _ _ p3)
    obtain ⟨zr, zi, c1, c2⟩ := prods_num (r % 64) (s % 64) (Nat.mod_lt _ (by omega)) (Nat.mod_lt _ (by omega)) (prodsB _ _ (Nat.mod_lt _ (by omega)) (Nat.mod_lt _ (by omega)))
    have M1 := Lib.hid c1
    have M2 := Lib.hid c2
    have Q := Lib.hid (quar_num r)
    clear bd at' aw ww t1 t2 t3 t4 t8 p1 p2 p3 c1 c2
    generalize dT (r + 128) = d1 at *
    generalize dT (s + 128) = d2 at *
    generalize dT (r + s) = d3 at *
    generalize reT ((r % 64 + s % 64) % 64) = re3 at *
    generalize imT ((r % 64 + s % 64) % 64) = im3 at *
    generalize reT (r % 64) = re1 at *
    generalize imT (r % 64) = im1 at *
    generalize reT (s % 64) = re2 at *
    generalize imT (s % 64) = im2 at *
    generalize anT (r % 64) = an1 at *
    generalize anW (r % 64) = an2 at *
    generalize reW (r % 64) = re4 at *
    have T7 := Lib.hid t7
    clear hs hr t7
    go_wp2_with fail
    refine (P1.out _).mono ?_
    rintro _ _ ⟨n3, rfl, rfl⟩
    go_wp2_with fail
    refine (P2.out _).mono ?_
    rintro _ _ ⟨n4, rfl, rfl⟩
    go_wp2_with fail
    refine (P3.out _).mono ?_
    rintro _ _ ⟨n5, rfl, rfl⟩
    clear q1 q2 q3
    go_wp2_with fail
    refine (A1.out _).mono ?_
    rintro _ w1 ⟨rfl, hB1⟩
    have B1 := Lib.hid ((below_d (w := w)).trans (hB1.mono (Nat.le_refl _)))
    clear hB1
    go_wp2_with fail
    refine (W1.out _).mono ?_
    rintro _ _ ⟨n6, rfl, rfl⟩
    go_wp2_with fail
    refine (G2.out _).mono ?_
    rintro _ _ ⟨n7, rfl, rfl⟩
    go_wp2_with fail
    refine (M1.out _).mono ?_
    rintro _ _ ⟨n8, rfl, rfl⟩
    go_wp2_with fail
    refine (M2.out _).mono ?_
    rintro _ _ ⟨n9, rfl, rfl⟩
    go_wp2_with fail
    refine (G1.out _).mono ?_
    rintro _ _ ⟨n10, rfl, rfl⟩
    have t7 : ((n - 10000).tmod 64 != 0) = false := by rw [T7.out]; rfl
    go_upto_if 83 with fail
    clear t7 t9 p4
    have key : ((r : Int) - 128).tmod 16 = 0 ∨ ¬ ((r : Int) - 128).tmod 16 = 0 := Decidable.em _
    have key2 : (∃ g, GapIs re4 0 g ∧ ((FloatKind.f64.format.order g 0 != some .eq) = false ∨ (FloatKind.f64.format.order g 4607182418800017408 != some .eq) = false) ∧ ((((r : Int) - 128).tmod 16 == 0) = true)) ∨ ((((r : Int) - 128).tmod 16 == 0) = false) := by
      rcases key with k | k
      · obtain ⟨g, h1, h2⟩ := Q.out k
        exact .inl ⟨g, h1, h2, beq_iff_eq.2 k⟩
      · exact .inr (beq_eq_false_iff_ne.2 k)
    clear key
    rcases key2 with ⟨g, hg, h0 | h1, hk⟩ | hk
    · have G3 := Lib.hid (laws_b10Gap _ _ _ hg)
      clear hg
      go_wp2_with (go_at_call 19; refine (G3.out _).mono ?_; rintro _ _ ⟨n11, rfl, rfl⟩)
      refine (laws_b10At b lb cb 0 200 (by omega) (by omega) _ (HB.out.below (below_drewN' B1.out _))).mono ?_
      rintro _ _ ⟨i, hi, k1, rfl, rfl⟩
      have hi2 : i < 200 := by omega
      have e1 := fun t w => run_float_arith (P := Try.prog) w .quo t .f32 _ _ _ (eighths8 ⟨i, hi2⟩)
      dsimp only at e1
      go_wp2_with fail
      refine (laws_b10At b lb cb 1 200 (by omega) (by omega) _ (HB.out.below (below_drewN' B1.out _))).mono ?_
      rintro _ _ ⟨j, hj, k2, rfl, rfl⟩
      have hj2 : j < 200 := by omega
      have e2 := fun t w => run_float_arith (P := Try.prog) w .quo t .f32 _ _ _ (eighths8 ⟨j, hj2⟩)
      dsimp only at e2
      obtain ⟨z5, z1, z2, z3, z4⟩ := ten_all i j hi2 hj2
      have e3 := fun t w => run_float_arith (P := Try.prog) w .mul t .f32 _ _ _ z1
      have T1 := Lib.hid (ten_call i hi2)
      have T2 := Lib.hid (ten_call j hj2)
      have T3 := Lib.hid (fun w => impl_Tenths_num z5 z2 w)
      have li := tA_le ⟨i, hi2⟩
      have lj := tA_le ⟨j, hj2⟩
      dsimp only at li lj
      generalize tenC (some z5) = c at *
      obtain ⟨mi, hmi⟩ : ∃ mi : Int, mi = (tA i : Int) - 300 := ⟨_, rfl⟩
      obtain ⟨mj, hmj⟩ : ∃ mj : Int, mj = (tA j : Int) - 300 := ⟨_, rfl⟩
      rw [← hmi] at T1
      rw [← hmj] at T2
      have b1 : -300 ≤ mi := by omega
      have b2 : mi ≤ 300 := by omega
      have b3 : -300 ≤ mj := by omega
      have b4 : mj ≤ 300 := by omega
      have b5 : mi + mj - c ≤ 1 := by omega
      have b6 : c - mi - mj ≤ 1 := by omega
      have b7 : -700 ≤ c := by omega
      have b8 : c ≤ 700 := by omega
      clear z1 z3 z4 li lj hmi hmj hi hj
      generalize e8 i = x1 at *
      generalize e8 j = x2 at *
      go_wp2_with fail
      refine (T1.out _).mono ?_
      rintro _ w2 ⟨rfl, hB2⟩
      have B2 := Lib.hid ((below_drewN' B1.out _).trans (hB2.mono B1.out.size))
      clear hB2
      go_wp2_with fail
      refine (T2.out _).mono ?_
      rintro _ w3 ⟨rfl, hB3⟩
      have B3 := Lib.hid (B2.out.trans (hB3.mono B2.out.size))
      clear hB3
      go_wp2_with fail
      refine (T3.out _).mono ?_
      rintro _ w4 ⟨rfl, hB4⟩
      have B4 := Lib.hid (B3.out.trans (hB4.mono B3.out.size))
      clear hB4
      go_wp2_with fail
      refine (ten_call1 _).mono ?_
      rintro _ w5 ⟨rfl, hB5⟩
      have B5 := Lib.hid (B4.out.trans (hB5.mono B4.out.size))
      clear hB5
      go_wp2_with fail
      refine (angle_call _).mono ?_
      rintro _ w6 ⟨rfl, hB6⟩
      have B6 := Lib.hid (B5.out.trans (hB6.mono B5.out.size))
      clear hB6
      go_wp2_with fail
      refine (same_call _).mono ?_
      rintro _ _ ⟨k3, rfl, rfl⟩
      go_wp2
      go_ret
      exact ⟨rfl, below_drewN' B6.out _⟩
    · have G3 := Lib.hid (laws_b10Gap _ _ _ hg)
      clear hg
      cases h0 : (FloatKind.f64.format.order g 0 != some .eq)
      · go_wp2_with (go_at_call 19; refine (G3.out _).mono ?_; rintro _ _ ⟨n11, rfl, rfl⟩)
        refine (laws_b10At b lb cb 0 200 (by omega) (by omega) _ (HB.out.below (below_drewN' B1.out _))).mono ?_
        rintro _ _ ⟨i, hi, k1, rfl, rfl⟩
        have hi2 : i < 200 := by omega
        have e1 := fun t w => run_float_arith (P := Try.prog) w .quo t .f32 _ _ _ (eighths8 ⟨i, hi2⟩)
        dsimp only at e1
        go_wp2_with fail
        refine (laws_b10At b lb cb 1 200 (by omega) (by omega) _ (HB.out.below (below_drewN' B1.out _))).mono ?_
        rintro _ _ ⟨j, hj, k2, rfl, rfl⟩
        have hj2 : j < 200 := by omega
        have e2 := fun t w => run_float_arith (P := Try.prog) w .quo t .f32 _ _ _ (eighths8 ⟨j, hj2⟩)
        dsimp only at e2
        obtain ⟨z5, z1, z2, z3, z4⟩ := ten_all i j hi2 hj2
        have e3 := fun t w => run_float_arith (P := Try.prog) w .mul t .f32 _ _ _ z1
        have T1 := Lib.hid (ten_call i hi2)
        have T2 := Lib.hid (ten_call j hj2)
        have T3 := Lib.hid (fun w => impl_Tenths_num z5 z2 w)
        have li := tA_le ⟨i, hi2⟩
        have lj := tA_le ⟨j, hj2⟩
        dsimp only at li lj
        generalize tenC (some z5) = c at *
        obtain ⟨mi, hmi⟩ : ∃ mi : Int, mi = (tA i : Int) - 300 := ⟨_, rfl⟩
        obtain ⟨mj, hmj⟩ : ∃ mj : Int, mj = (tA j : Int) - 300 := ⟨_, rfl⟩
        rw [← hmi] at T1
        rw [← hmj] at T2
        have b1 : -300 ≤ mi := by omega
        have b2 : mi ≤ 300 := by omega
        have b3 : -300 ≤ mj := by omega
        have b4 : mj ≤ 300 := by omega
        have b5 : mi + mj - c ≤ 1 := by omega
        have b6 : c - mi - mj ≤ 1 := by omega
        have b7 : -700 ≤ c := by omega
        have b8 : c ≤ 700 := by omega
        clear z1 z3 z4 li lj hmi hmj hi hj
        generalize e8 i = x1 at *
        generalize e8 j = x2 at *
        go_wp2_with fail
        refine (T1.out _).mono ?_
        rintro _ w2 ⟨rfl, hB2⟩
        have B2 := Lib.hid ((below_drewN' B1.out _).trans (hB2.mono B1.out.size))
        clear hB2
        go_wp2_with fail
        refine (T2.out _).mono ?_
        rintro _ w3 ⟨rfl, hB3⟩
        have B3 := Lib.hid (B2.out.trans (hB3.mono B2.out.size))
        clear hB3
        go_wp2_with fail
        refine (T3.out _).mono ?_
        rintro _ w4 ⟨rfl, hB4⟩
        have B4 := Lib.hid (B3.out.trans (hB4.mono B3.out.size))
        clear hB4
        go_wp2_with fail
        refine (ten_call1 _).mono ?_
        rintro _ w5 ⟨rfl, hB5⟩
        have B5 := Lib.hid (B4.out.trans (hB5.mono B4.out.size))
        clear hB5
        go_wp2_with fail
        refine (angle_call _).mono ?_
        rintro _ w6 ⟨rfl, hB6⟩
        have B6 := Lib.hid (B5.out.trans (hB6.mono B5.out.size))
        clear hB6
        go_wp2_with fail
        refine (same_call _).mono ?_
        rintro _ _ ⟨k3, rfl, rfl⟩
        go_wp2
        go_ret
        exact ⟨rfl, below_drewN' B6.out _⟩
      · go_wp2_with (go_at_call 19; refine (G3.out _).mono ?_; rintro _ _ ⟨n11, rfl, rfl⟩)
        refine (laws_b10At b lb cb 0 200 (by omega) (by omega) _ (HB.out.below (below_drewN' B1.out _))).mono ?_
        rintro _ _ ⟨i, hi, k1, rfl, rfl⟩
        have hi2 : i < 200 := by omega
        have e1 := fun t w => run_float_arith (P := Try.prog) w .quo t .f32 _ _ _ (eighths8 ⟨i, hi2⟩)
        dsimp only at e1
        go_wp2_with fail
        refine (laws_b10At b lb cb 1 200 (by omega) (by omega) _ (HB.out.below (below_drewN' B1.out _))).mono ?_
        rintro _ _ ⟨j, hj, k2, rfl, rfl⟩
        have hj2 : j < 200 := by omega
        have e2 := fun t w => run_float_arith (P := Try.prog) w .quo t .f32 _ _ _ (eighths8 ⟨j, hj2⟩)
        dsimp only at e2
        obtain ⟨z5, z1, z2, z3, z4⟩ := ten_all i j hi2 hj2
        have e3 := fun t w => run_float_arith (P := Try.prog) w .mul t .f32 _ _ _ z1
        have T1 := Lib.hid (ten_call i hi2)
        have T2 := Lib.hid (ten_call j hj2)
        have T3 := Lib.hid (fun w => impl_Tenths_num z5 z2 w)
        have li := tA_le ⟨i, hi2⟩
        have lj := tA_le ⟨j, hj2⟩
        dsimp only at li lj
        generalize tenC (some z5) = c at *
        obtain ⟨mi, hmi⟩ : ∃ mi : Int, mi = (tA i : Int) - 300 := ⟨_, rfl⟩
        obtain ⟨mj, hmj⟩ : ∃ mj : Int, mj = (tA j : Int) - 300 := ⟨_, rfl⟩
        rw [← hmi] at T1
        rw [← hmj] at T2
        have b1 : -300 ≤ mi := by omega
        have b2 : mi ≤ 300 := by omega
        have b3 : -300 ≤ mj := by omega
        have b4 : mj ≤ 300 := by omega
        have b5 : mi + mj - c ≤ 1 := by omega
        have b6 : c - mi - mj ≤ 1 := by omega
        have b7 : -700 ≤ c := by omega
        have b8 : c ≤ 700 := by omega
        clear z1 z3 z4 li lj hmi hmj hi hj
        generalize e8 i = x1 at *
        generalize e8 j = x2 at *
        go_wp2_with fail
        refine (T1.out _).mono ?_
        rintro _ w2 ⟨rfl, hB2⟩
        have B2 := Lib.hid ((below_drewN' B1.out _).trans (hB2.mono B1.out.size))
        clear hB2
        go_wp2_with fail
        refine (T2.out _).mono ?_
        rintro _ w3 ⟨rfl, hB3⟩
        have B3 := Lib.hid (B2.out.trans (hB3.mono B2.out.size))
        clear hB3
        go_wp2_with fail
        refine (T3.out _).mono ?_
        rintro _ w4 ⟨rfl, hB4⟩
        have B4 := Lib.hid (B3.out.trans (hB4.mono B3.out.size))
        clear hB4
        go_wp2_with fail
        refine (ten_call1 _).mono ?_
        rintro _ w5 ⟨rfl, hB5⟩
        have B5 := Lib.hid (B4.out.trans (hB5.mono B4.out.size))
        clear hB5
        go_wp2_with fail
        refine (angle_call _).mono ?_
        rintro _ w6 ⟨rfl, hB6⟩
        have B6 := Lib.hid (B5.out.trans (hB6.mono B5.out.size))
        clear hB6
        go_wp2_with fail
        refine (same_call _).mono ?_
        rintro _ _ ⟨k3, rfl, rfl⟩
        go_wp2
        go_ret
        exact ⟨rfl, below_drewN' B6.out _⟩
    · go_wp2_with fail
      refine (laws_b10At b lb cb 0 200 (by omega) (by omega) _ (HB.out.below (below_drewN' B1.out _))).mono ?_
      rintro _ _ ⟨i, hi, k1, rfl, rfl⟩
      have hi2 : i < 200 := by omega
      have e1 := fun t w => run_float_arith (P := Try.prog) w .quo t .f32 _ _ _ (eighths8 ⟨i, hi2⟩)
      dsimp only at e1
      go_wp2_with fail
      refine (laws_b10At b lb cb 1 200 (by omega) (by omega) _ (HB.out.below (below_drewN' B1.out _))).mono ?_
      rintro _ _ ⟨j, hj, k2, rfl, rfl⟩
      have hj2 : j < 200 := by omega
      have e2 := fun t w => run_float_arith (P := Try.prog) w .quo t .f32 _ _ _ (eighths8 ⟨j, hj2⟩)
      dsimp only at e2
      obtain ⟨z5, z1, z2, z3, z4⟩ := ten_all i j hi2 hj2
      have e3 := fun t w => run_float_arith (P := Try.prog) w .mul t .f32 _ _ _ z1
      have T1 := Lib.hid (ten_call i hi2)
      have T2 := Lib.hid (ten_call j hj2)
      have T3 := Lib.hid (fun w => impl_Tenths_num z5 z2 w)
      have li := tA_le ⟨i, hi2⟩
      have lj := tA_le ⟨j, hj2⟩
      dsimp only at li lj
      generalize tenC (some z5) = c at *
      obtain ⟨mi, hmi⟩ : ∃ mi : Int, mi = (tA i : Int) - 300 := ⟨_, rfl⟩
      obtain ⟨mj, hmj⟩ : ∃ mj : Int, mj = (tA j : Int) - 300 := ⟨_, rfl⟩
      rw [← hmi] at T1
      rw [← hmj] at T2
      have b1 : -300 ≤ mi := by omega
      have b2 : mi ≤ 300 := by omega
      have b3 : -300 ≤ mj := by omega
      have b4 : mj ≤ 300 := by omega
      have b5 : mi + mj - c ≤ 1 := by omega
      have b6 : c - mi - mj ≤ 1 := by omega
      have b7 : -700 ≤ c := by omega
      have b8 : c ≤ 700 := by omega
      clear z1 z3 z4 li lj hmi hmj hi hj
      generalize e8 i = x1 at *
      generalize e8 j = x2 at *
      go_wp2_with fail
      refine (T1.out _).mono ?_
      rintro _ w2 ⟨rfl, hB2⟩
      have B2 := Lib.hid ((below_drewN' B1.out _).trans (hB2.mono B1.out.size))
      clear hB2
      go_wp2_with fail
      refine (T2.out _).mono ?_
      rintro _ w3 ⟨rfl, hB3⟩
      have B3 := Lib.hid (B2.out.trans (hB3.mono B2.out.size))
      clear hB3
      go_wp2_with fail
      refine (T3.out _).mono ?_
      rintro _ w4 ⟨rfl, hB4⟩
      have B4 := Lib.hid (B3.out.trans (hB4.mono B3.out.size))
      clear hB4
      go_wp2_with fail
      refine (ten_call1 _).mono ?_
      rintro _ w5 ⟨rfl, hB5⟩
      have B5 := Lib.hid (B4.out.trans (hB5.mono B4.out.size))
      clear hB5
      go_wp2_with fail
      refine (angle_call _).mono ?_
      rintro _ w6 ⟨rfl, hB6⟩
      have B6 := Lib.hid (B5.out.trans (hB6.mono B5.out.size))
      clear hB6
      go_wp2_with fail
      refine (same_call _).mono ?_
      rintro _ _ ⟨k3, rfl, rfl⟩
      go_wp2
      go_ret
      exact ⟨rfl, below_drewN' B6.out _⟩
end Go.Proofs.Ytlkhkpaggkpieaa
