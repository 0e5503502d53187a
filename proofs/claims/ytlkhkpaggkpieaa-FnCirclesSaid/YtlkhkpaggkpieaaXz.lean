/- FnCircles: the program's functions at phasors. -/
import Derived.Test.YtlkhkpaggkpieaaXr
import Derived.Test.YtlkhkpaggkpieaaXq
namespace Go.Proofs.Ytlkhkpaggkpieaa
set_option maxRecDepth 100000
set_option linter.unusedVariables false
open Go.RowKit
theorem RetC.num {k : FloatKind} {a b : Nat} {w : World} {e : Ending} {w' : World} (h : RetC k (some a) (some b) w e w') : RetV (.complex k a b) w e w' := by
  obtain ⟨r, q, n, rfl, h1, h2, rfl⟩ := h
  obtain rfl := cn_some h1.out
  obtain rfl := cn_some h2.out
  exact ⟨n, rfl, rfl⟩
theorem upZ {x y : Nat} (h : isConv .f32 .f64 x y = true) (w : World) : (convert 22 25 (.float .f32 x)).run Try.prog w = .ok (.float .f64 y) w := run_convN (by decide) (by kernel_rfl) Try.underlying25 h w
theorem dnZ {x y : Nat} (h : isConv .f64 .f32 x y = true) (w : World) : (convert 25 22 (.float .f64 x)).run Try.prog w = .ok (.float .f32 y) w := run_convN (by decide) (by kernel_rfl) Try.underlying22 h w
theorem impl_Phasor64 (t : Nat) (ht : t < 511) (w : World) : Calls Try.prog 12 #[.float .f64 (dT t)] w (RetV (.complex .f32 (reT (t % 64)) (imT (t % 64))) w) := by
  have hr : t % 64 < 64 := Nat.mod_lt _ (by omega)
  have h1 := dT_ok ⟨t, ht⟩
  have h2 := partT ⟨t, ht⟩
  have h3 := turnsT ⟨t % 64, hr⟩
  have h4 := reals ⟨t % 64, hr⟩
  have h5 := imags ⟨t % 64, hr⟩
  dsimp only at h1 h2 h3 h4 h5
  have := impl_PhasorOf (dT t) h1.1 h1.2 (t % 64 / 16) (by rw [h2]; exact jnB_is h3) w
  rw [h2, h4, h5] at this
  exact this.mono fun _ _ hp => hp.num
theorem impl_angle_num (y x : Nat) (hy : y < 4294967296) (hx : x < 4294967296) (fy : y % 2147483648 < 2139095040) (fx : x % 2147483648 < 2139095040) (hz : ¬ (x % 2147483648 = 0 ∧ y % 2147483648 = 0)) (w : World) :
    Calls Try.prog 15 #[.float .f32 y, .float .f32 x] w (RetFw (angW y x) w) := by
  have fin_of : ∀ z, z < 4294967296 → z % 2147483648 < 2139095040 → cn .f32 z = some z ∧ isFin (cn .f32 z) = true := by
    intro z hz h
    have c : cn .f32 z = some z := cn_of_le _ _ (by rw [f32_sign, f32_inf]; omega)
    exact ⟨c, by rw [c, isFin_some hz c]; simpa using h⟩
  obtain ⟨cy, iy⟩ := fin_of y hy fy
  obtain ⟨cx, ix⟩ := fin_of x hx fx
  have hall : allFin [x, y] = true := by simp [allFin, ix, iy]
  obtain ⟨Y, eY, lY, cY, sY, _⟩ := up_spec y hy cy
  obtain ⟨X, eX, lX, cX, sX, _⟩ := up_spec x hx cx
  obtain ⟨_, yl, yz, yr⟩ := abs_range hy fy cy eY
  obtain ⟨_, xl, xz, xr⟩ := abs_range hx fx cx eX
  have oy := ord0 hy cy
  have ox := ord0 hx cx
  have hT : Fp (angT (Y % 9223372036854775808) (X % 9223372036854775808)) 1 := angT_Fp yr xr yl xl (by omega)
  have hzz : ((FloatKind.f32.format.order x 0 == some .eq) && (FloatKind.f32.format.order y 0 == some .eq)) = false := by
    rw [ox, oy, Bool.and_eq_false_iff]
    by_cases q : x % 2147483648 = 0
    · right
      rw [if_neg (fun p => hz ⟨q, p⟩)]
      split <;> rfl
    · left
      rw [if_neg q]
      split <;> rfl
  have e : angW y x = cconv .f64 .f32 (angV (Y % 9223372036854775808) (X % 9223372036854775808) (FloatKind.f32.format.order x 0 == some .lt) (FloatKind.f32.format.order y 0 == some .lt)) := by
    unfold angW
    rw [eY, eX]; rfl
  rw [e]
  exact impl_AngleTurns y x Y X _ _ hall cy cx eY eX lY lX rfl rfl (by omega) (by omega) hT _ _ _ _ rfl rfl rfl rfl hzz w
def RetNw (v : Value) (w : World) (e : Ending) (w' : World) : Prop := e = .returned v ∧ Below w.heap.size w w'
theorem impl_AngleOf_num (x y v : Nat) (hy : y < 4294967296) (hx : x < 4294967296) (fy : y % 2147483648 < 2139095040) (fx : x % 2147483648 < 2139095040) (hz : ¬ (x % 2147483648 = 0 ∧ y % 2147483648 = 0)) (hv : angW y x = some v) (w : World) :
    Calls Try.prog 21 #[.complex .f32 x y] w (RetNw (.float .f32 v) w) := by
  have C := Lib.hid (fun w => impl_angle_num y x hy hx fy fx hz w)
  rw [hv] at C
  clear hv
  go_enter Try.func21, Try.ntmps21
  go_wp2_with fail
  refine (C.out _).mono ?_
  rintro _ w1 ⟨r, rfl, hr, hB⟩
  obtain rfl := cn_some hr.out
  have B := Lib.hid hB
  clear hr hB
  go_wp2
  go_ret
  exact ⟨rfl, B.out⟩
theorem impl_power_num (x y a b aa bb s : Nat) (ha : isConv .f32 .f64 x a = true) (hb : isConv .f32 .f64 y b = true) (h1 : cop .mul .f64 (some a) (some a) = some aa) (h2 : cop .mul .f64 (some b) (some b) = some bb) (h3 : cop .add .f64 (some aa) (some bb) = some s) (w : World) :
    Calls Try.prog 41 #[.complex .f32 x y] w (RetV (.float .f64 s) w) := by
  have u1 := upZ ha
  have u2 := upZ hb
  have r1 := fun t w => run_float_arith (P := Try.prog) w .mul t .f64 _ _ _ h1
  have r2 := fun t w => run_float_arith (P := Try.prog) w .mul t .f64 _ _ _ h2
  have r3 := fun t w => run_float_arith (P := Try.prog) w .add t .f64 _ _ _ h3
  clear ha hb h1 h2 h3
  go_enter Try.func41, Try.ntmps41
  go_wp2
  go_ret
  exact RetV.mk0 rfl
theorem impl_PowerOf_num (x y s z : Nat) (hp : ∀ w, Calls Try.prog 41 #[.complex .f32 x y] w (RetV (.float .f64 s) w)) (hz : isConv .f64 .f32 s z = true) (w : World) :
    Calls Try.prog 22 #[.complex .f32 x y] w (RetV (.float .f32 z) w) := by
  have C := Lib.hid hp
  have u1 := dnZ hz
  clear hp hz
  go_enter Try.func22, Try.ntmps22
  go_wp2_with fail
  refine (C.out _).mono ?_
  rintro _ _ ⟨n, rfl, rfl⟩
  go_wp2
  go_ret
  exact RetV.mk rfl
theorem impl_times_num (x y p q a b c d ac bd ad bc r i : Nat) (ha : isConv .f32 .f64 x a = true) (hb : isConv .f32 .f64 y b = true) (hc : isConv .f32 .f64 p c = true) (hd : isConv .f32 .f64 q d = true)
    (h1 : cop .mul .f64 (some a) (some c) = some ac) (h2 : cop .mul .f64 (some b) (some d) = some bd) (h3 : cop .sub .f64 (some ac) (some bd) = some r) (h4 : cop .mul .f64 (some a) (some d) = some ad) (h5 : cop .mul .f64 (some b) (some c) = some bc) (h6 : cop .add .f64 (some ad) (some bc) = some i) (w : World) :
    Calls Try.prog 42 #[.complex .f32 x y, .complex .f32 p q] w (RetV (.tuple #[.float .f64 r, .float .f64 i]) w) := by
  have u1 := upZ ha
  have u2 := upZ hb
  have u3 := upZ hc
  have u4 := upZ hd
  have r1 := fun t w => run_float_arith (P := Try.prog) w .mul t .f64 _ _ _ h1
  have r2 := fun t w => run_float_arith (P := Try.prog) w .mul t .f64 _ _ _ h2
  have r3 := fun t w => run_float_arith (P := Try.prog) w .sub t .f64 _ _ _ h3
  have r4 := fun t w => run_float_arith (P := Try.prog) w .mul t .f64 _ _ _ h4
  have r5 := fun t w => run_float_arith (P := Try.prog) w .mul t .f64 _ _ _ h5
  have r6 := fun t w => run_float_arith (P := Try.prog) w .add t .f64 _ _ _ h6
  clear ha hb hc hd h1 h2 h3 h4 h5 h6
  go_enter Try.func42, Try.ntmps42
  go_wp2
  go_ret2
  exact RetV.mk0 rfl
theorem impl_MulComplex_num (x y p q r i zr zi : Nat) (ht : ∀ w, Calls Try.prog 42 #[.complex .f32 x y, .complex .f32 p q] w (RetV (.tuple #[.float .f64 r, .float .f64 i]) w)) (h1 : isConv .f64 .f32 r zr = true) (h2 : isConv .f64 .f32 i zi = true) (w : World) :
    Calls Try.prog 24 #[.complex .f32 x y, .complex .f32 p q] w (RetV (.complex .f32 zr zi) w) := by
  have C := Lib.hid ht
  have u1 := dnZ h1
  have u2 := dnZ h2
  clear ht h1 h2
  go_enter Try.func24, Try.ntmps24
  go_wp2_with fail
  refine (C.out _).mono ?_
  rintro _ _ ⟨n, rfl, rfl⟩
  go_wp2
  go_ret
  exact RetV.mk rfl
theorem laws_b10Near_num (x y p q a b c d g h m : Nat) (ha : isConv .f32 .f64 x a = true) (hb : isConv .f32 .f64 y b = true) (hc : isConv .f32 .f64 p c = true) (hd : isConv .f32 .f64 q d = true)
    (h1 : GapIs a c g) (h2 : GapIs b d h) (l1 : (FloatKind.f64.format.order g m == some .lt || FloatKind.f64.format.order g m == some .eq) = true) (l2 : (FloatKind.f64.format.order h m == some .lt || FloatKind.f64.format.order h m == some .eq) = true) (w : World) :
    Calls Try.prog 23 #[.complex .f32 x y, .complex .f32 p q, .float .f64 m] w (RetV (.bool true) w) := by
  have u1 := upZ ha
  have u2 := upZ hb
  have u3 := upZ hc
  have u4 := upZ hd
  have G1 := Lib.hid (laws_b10Gap _ _ _ h1)
  have G2 := Lib.hid (laws_b10Gap _ _ _ h2)
  clear ha hb hc hd h1 h2
  go_enter Try.func23, Try.ntmps23
  go_wp2_with fail
  refine (G1.out _).mono ?_
  rintro _ _ ⟨n1, rfl, rfl⟩
  go_wp2_with fail
  refine (G2.out _).mono ?_
  rintro _ _ ⟨n2, rfl, rfl⟩
  go_wp2
  go_ret
  exact RetV.mk rfl
theorem posC_okh {x : Nat} (h : okh x = true) : cn .f32 x = some x ∧ posC (cn .f32 x) = true ∧ x < 4294967296 := by
  obtain ⟨h1, h2⟩ := okh_parts h
  have c : cn .f32 x = some x := cn_of_le _ _ (by rw [f32_sign, f32_inf]; omega)
  refine ⟨c, ?_, by omega⟩
  rw [c]
  unfold posC
  rw [isFin_some (by omega) c, show cord .f32 (some x) (some 0) = FloatKind.f32.format.order x 0 from rfl, ord0 (by omega) c]
  rw [if_neg (by omega), if_neg (by omega)]
  simp; omega
theorem impl_Tenths_num (x : Nat) (h : okh x = true) (w : World) : Calls Try.prog 25 #[.float .f32 x] w (RetNw (.tuple #[.int .i64 (tenC (some x)), .bool true]) w) := by
  obtain ⟨c, hp, hl⟩ := posC_okh h
  have := impl_TenthsOf x hl w
  rw [hp, c] at this
  exact this.mono fun _ _ hq => hq
theorem powers_num (r : Nat) (hr : r < 64) : ∃ z wz g, (∀ w, Calls Try.prog 22 #[.complex .f32 (reT r) (imT r)] w (RetV (.float .f32 z) w)) ∧ isConv .f32 .f64 z wz = true ∧ GapIs wz 4607182418800017408 g ∧ (FloatKind.f64.format.order g 4547007122018943789 == some .gt) = false := by
  have h := powers ⟨r, hr⟩
  have hw := widesT ⟨r, hr⟩
  dsimp only at h hw
  rw [Bool.and_eq_true] at hw
  unfold powB at h
  simp only [force_is] at h
  obtain ⟨aa, h1, h⟩ := fmulK_is h
  obtain ⟨bb, h2, h⟩ := fmulK_is h
  obtain ⟨s, h3, h⟩ := faddK_is h
  obtain ⟨z, h4, h⟩ := convB_is h
  obtain ⟨wz, h5, h⟩ := convB_is h
  obtain ⟨g, h6, h⟩ := gapK_is h
  refine ⟨z, wz, g, fun w => impl_PowerOf_num _ _ s z (fun w => impl_power_num _ _ _ _ _ _ _ hw.1 hw.2 h1 h2 h3 w) h4 w, h5, h6, ?_⟩
  simpa [gtB] using h
theorem prods_num (r q : Nat) (hr : r < 64) (hq : q < 64) (h : mulB r q = true) : ∃ zr zi, (∀ w, Calls Try.prog 24 #[.complex .f32 (reT r) (imT r), .complex .f32 (reT q) (imT q)] w (RetV (.complex .f32 zr zi) w)) ∧
    (∀ w, Calls Try.prog 23 #[.complex .f32 zr zi, .complex .f32 (reT ((r + q) % 64)) (imT ((r + q) % 64)), .float .f64 4547007122018943789] w (RetV (.bool true) w)) := by
  have hw := widesT ⟨r, hr⟩
  have hv := widesT ⟨q, hq⟩
  have ht := widesT ⟨(r + q) % 64, Nat.mod_lt _ (by omega)⟩
  dsimp only at hw hv ht
  rw [Bool.and_eq_true] at hw hv ht
  unfold mulB at h
  simp only [force_is, nadd, nmod] at h
  obtain ⟨ac, h1, h⟩ := fmulK_is h
  obtain ⟨bd, h2, h⟩ := fmulK_is h
  obtain ⟨x, h3, h⟩ := fsubK_is h
  obtain ⟨ad, h4, h⟩ := fmulK_is h
  obtain ⟨bc, h5, h⟩ := fmulK_is h
  obtain ⟨y, h6, h⟩ := faddK_is h
  obtain ⟨zx, h7, h⟩ := convB_is h
  obtain ⟨zy, h8, h⟩ := convB_is h
  obtain ⟨wx, h9, h⟩ := convB_is h
  obtain ⟨wy, h10, h⟩ := convB_is h
  obtain ⟨g, h11, h⟩ := gapK_is h
  rw [Bool.and_eq_true] at h
  obtain ⟨l1, h⟩ := h
  obtain ⟨g2, h12, l2⟩ := gapK_is h
  refine ⟨zx, zy, fun w => impl_MulComplex_num _ _ _ _ x y zx zy (fun w => impl_times_num _ _ _ _ _ _ _ _ _ _ _ _ _ _ hw.1 hw.2 hv.1 hv.2 h1 h2 h3 h4 h5 h6 w) h7 h8 w, fun w => laws_b10Near_num _ _ _ _ _ _ _ _ g g2 _ h9 h10 ht.1 ht.2 h11 h12 l1 l2 w⟩
theorem turn_num (t : Nat) (ht : t < 256) : ∃ (an u v : Nat) (n : Int) (g : Nat), cop .mul .f64 (some (anW (t % 64))) (some 4634204016564240384) = some an ∧ cop .sub .f64 (some an) (some (floatOfInt .f64 ((t : Int) - 128))) = some u ∧ cop .add .f64 (some u) (some 4666723447345250304) = some v ∧
    floatToIntVal .f64 v .i64 = some n ∧ 9000 ≤ n ∧ n ≤ 11000 ∧ (n - 10000).tmod 64 = 0 ∧ GapIs u (floatOfInt .f64 (n - 10000)) g ∧ (FloatKind.f64.format.order g 4562254508917369340 == some .gt) = false := by
  have h := spinsB ⟨t, ht⟩
  dsimp only at h
  unfold spinB at h
  simp only [force_is] at h
  obtain ⟨an, h1, h⟩ := fmulK_is h
  obtain ⟨u, h2, h⟩ := fsubK_is h
  obtain ⟨v, h3, h⟩ := faddK_is h
  cases h4 : floatToIntVal .f64 v .i64 with
  | none => rw [h4] at h; cases h
  | some n =>
    rw [h4] at h
    dsimp only at h
    rw [Bool.and_eq_true, decide_eq_true_eq] at h
    obtain ⟨⟨l1, l2, l3⟩, h⟩ := h
    obtain ⟨g, h5, h⟩ := gapK_is h
    exact ⟨an, u, v, n, g, h1, h2, h3, h4, l1, l2, l3, h5, by simpa [gtB] using h⟩
end Go.Proofs.Ytlkhkpaggkpieaa
