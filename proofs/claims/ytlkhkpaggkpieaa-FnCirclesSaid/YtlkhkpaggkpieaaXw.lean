/- The program's exponential; numbers chosen by bytes; gaps. -/
import Derived.Test.YtlkhkpaggkpieaaXe
import Derived.Test.YtlkhkpaggkpieaaSl
namespace Go.Proofs.Ytlkhkpaggkpieaa
set_option maxRecDepth 100000
set_option linter.unusedVariables false
open Go.RowKit

theorem x_tab : ∀ j : Fin 12, (FloatKind.f64.format.order (fi (12 - (j.val : Int))) 4607182418800017408 == some .gt || FloatKind.f64.format.order (fi (12 - (j.val : Int))) 4607182418800017408 == some .eq) = true ∧
    cop .sub .f64 (some (fi (12 - (j.val : Int)))) (some 4607182418800017408) = some (fi (12 - ((j.val + 1 : Nat) : Int))) ∧ cn .f64 (fi (12 - (j.val : Int))) = some (fi (12 - (j.val : Int))) ∧
    kLeft (.float .f64 (fi (12 - ((j.val + 1 : Nat) : Int)))) < kLeft (.float .f64 (fi (12 - (j.val : Int)))) := by decide +kernel
theorem x_end : (FloatKind.f64.format.order (fi (12 - ((12 : Nat) : Int))) 4607182418800017408 == some .gt || FloatKind.f64.format.order (fi (12 - ((12 : Nat) : Int))) 4607182418800017408 == some .eq) = false := by decide +kernel
theorem x_k (j kk : Nat) (hj : j < 12) (hk : kk = fi (12 - (j : Int))) : (FloatKind.f64.format.order kk 4607182418800017408 == some .gt || FloatKind.f64.format.order kk 4607182418800017408 == some .eq) = true ∧
    cop .sub .f64 (some kk) (some 4607182418800017408) = some (fi (12 - ((j + 1 : Nat) : Int))) ∧ cn .f64 kk = some kk ∧ kLeft (.float .f64 (fi (12 - ((j + 1 : Nat) : Int)))) < kLeft (.float .f64 kk) := by
  subst hk
  exact x_tab ⟨j, hj⟩
theorem fi_12 : fi 12 = 4622945017495814144 := by decide
theorem c256 : cn .f64 4643211215818981376 = some 4643211215818981376 := by decide

set_option maxHeartbeats 2000000 in
theorem impl_exponential (X : Nat) (h1 : (FloatKind.f64.format.order X 4641240890982006784 == some .gt) = false) (h2 : (FloatKind.f64.format.order X 13864612927836782592 == some .lt) = false) (w : World) :
    Calls Try.prog 38 #[.float .f64 X] w (RetF .f64 (expC (cn .f64 X)) w) := by
  go_enter Try.func38, Try.ntmps38
  go_wp2_with (((first | with_reducible refine up_add _ _ _ _ _ ?_ | with_reducible refine up_sub _ _ _ _ _ ?_ | with_reducible refine up_mul _ _ _ _ _ ?_ | with_reducible refine up_quo _ _ _ _ _ ?_)); intro r nd hr)
  clear h1 h2
  go_loopw [4, 5] (fun p k wr => ∃ (j : Nat) (rp kk nq : Nat), j ≤ 12 ∧ k = .float .f64 kk ∧ p = .float .f64 rp ∧ Hid (kk = fi (12 - (j : Int)) ∧ FE .f64 rp (expP (cn .f64 r) j)) ∧ wr = w.drewN nq) (fun _ k _ => kLeft k)
  case atStart => exact ⟨0, _, _, _, by omega, rfl, rfl, ⟨by decide, ⟨one_cn, by decide⟩⟩, rfl⟩
  case round =>
    obtain ⟨j, rp, kk, nq, hj, rfl, rfl, hk, rfl⟩ := hrel
    have HR := Lib.hid hr
    clear hr
    by_cases hj2 : j < 12
    · have hb := x_k j kk hj2 hk.out.1
      have hb1 := hb.1
      have hs : ∀ t w, (binOp .sub t (.float .f64 kk) (.float .f64 4607182418800017408)).run Try.prog w = .ok (.float .f64 (fi (12 - ((j + 1 : Nat) : Int)))) w := fun t w => run_float_arith w .sub t .f64 _ _ _ hb.2.1
      have HB := Lib.hid hb
      clear hb
      obtain ⟨k2, hk2⟩ : ∃ k2, k2 = fi (12 - ((j + 1 : Nat) : Int)) := ⟨_, rfl⟩
      rw [← hk2] at hs
      have HK := Lib.hid hk2
      clear hk2
      go_wp2_with (((first | with_reducible refine up_add _ _ _ _ _ ?_ | with_reducible refine up_sub _ _ _ _ _ ?_ | with_reducible refine up_mul _ _ _ _ _ ?_ | with_reducible refine up_quo _ _ _ _ _ ?_)); intro r nd hr)
      go_roundw
      case rel =>
        refine ⟨j + 1, _, _, _, by omega, rfl, rfl, ⟨HK.out, ?_⟩, rfl⟩
        refine hr.cast ?_
        go_tidy
        have hk1 := hk.out
        have hb2 := HB.out.2.2.1
        simp_all [FE, expP, one_cn]
      case measure =>
        have h1 := HB.out.2.2.2
        have h2 := HK.out
        show kLeft (.float .f64 k2) < kLeft (.float .f64 kk)
        rw [h2]; exact h1
    · obtain rfl : j = 12 := by omega
      have hb : (FloatKind.f64.format.order kk 4607182418800017408 == some .gt || FloatKind.f64.format.order kk 4607182418800017408 == some .eq) = false := by rw [hk.out.1]; exact x_end
      go_wp2
      clear hb
      go_loopw [4, 25] (fun p i wr => ∃ (j : Nat) (rq nq : Nat), j ≤ 8 ∧ i = .int .i64 j ∧ p = .float .f64 rq ∧ Hid (FE .f64 rq (expS (expP (cn .f64 r) 12) j)) ∧ wr = w.drewN nq) (fun _ i _ => 8 - (intOf i).toNat)
      case atStart => exact ⟨0, _, _, by omega, rfl, rfl, hk.out.2, rfl⟩
      case round =>
        obtain ⟨j, rq, nq2, hj, rfl, rfl, hq, rfl⟩ := hrel
        by_cases hj2 : j < 8
        · go_wp2_with (((first | with_reducible refine up_add _ _ _ _ _ ?_ | with_reducible refine up_sub _ _ _ _ _ ?_ | with_reducible refine up_mul _ _ _ _ _ ?_ | with_reducible refine up_quo _ _ _ _ _ ?_)); intro r nd hr)
          go_roundw
          case rel =>
            refine ⟨j + 1, _, _, by omega, by go_num, rfl, ?_, rfl⟩
            refine hr.cast ?_
            show _ = expS _ (j + 1)
            rw [expS, sq64_is, hq.out.out]
          case measure => simp [intOf]; omega
        · obtain rfl : j = 8 := by omega
          go_wp2
          go_ret
          refine RetF.mk (hq.out.cast ?_)
          unfold expC
          rw [HR.out.out, c256]

/-- the contract of a call whose float is known -/
theorem RetF.num {k : FloatKind} {v : Nat} {w : World} {e : Ending} {w' : World} (h : RetF k (some v) w e w') : RetV (.float k v) w e w' := by
  obtain ⟨r, n, rfl, hr, rfl⟩ := h
  have := cn_some hr.out
  exact ⟨n, by rw [this], rfl⟩
theorem cn_conv {s d : FloatKind} {x y : Nat} (h : isConv s d x y = true) : cn s x = some x := by
  unfold isConv at h
  unfold cn
  cases hx : s.decode x with
  | nan g t => rw [hx] at h; cases h
  | infinity g => rw [hx] at h; cases h
  | number g m e => simp [Ieee.Datum.isNaN]

theorem eighthsN : ∀ k : Fin 129, cn .f64 (eighthW k.val) = some (eighthW k.val) := by decide +kernel
theorem impl_Exp8 (k : Nat) (hk : k < 129) (w : World) : Calls Try.prog 18 #[.float .f32 (eighth k)] w (RetV (.float .f32 (expT k)) w) := by
  have h1 := eighths1 ⟨k, hk⟩
  have h2 := exps1 ⟨k, hk⟩
  have h3 := exps2 ⟨k, hk⟩
  simp only [Bool.and_eq_true, Bool.not_eq_true'] at h1 h2 h3
  obtain ⟨⟨h1, h4⟩, h5⟩ := h1
  obtain ⟨⟨h3, h6⟩, h7⟩ := h3
  have c1 := run_convN (P := Try.prog) (src := 22) (dst := 25) (by decide) (by kernel_rfl) Try.underlying25 h1
  have c2 := run_convN (P := Try.prog) (src := 25) (dst := 22) (by decide) (by kernel_rfl) Try.underlying22 h3
  have cw := eighthsN ⟨k, hk⟩
  dsimp only at cw h1 h2 h3 h4 h5 h6 h7
  have C := Lib.hid (fun w => impl_exponential (eighthW k) h4 h5 w)
  rw [cw, h2] at C
  generalize eighth k = a at *
  generalize eighthW k = b at *
  generalize expT k = c at *
  generalize expD k = d at *
  clear cw h1 h2 h3 h4 h5 h6 h7
  go_enter Try.func18, Try.ntmps18
  go_wp2_with (go_at_call 38; refine (C.out _).mono ?_; intro _ _ hp; obtain ⟨nd, rfl, rfl⟩ := hp.num)
  go_ret
  exact RetV.mk rfl
theorem impl_LogNum (x v : Nat) (hx : x < 4294967296) (hc : cn .f32 x = some x) (h : logNC (some x) = some v) (w : World) : Calls Try.prog 20 #[.float .f32 x] w (RetV (.float .f32 v) w) := by
  have := impl_LogNumber x hx w
  rw [hc, h] at this
  exact this.mono fun _ _ hp => hp.num

/-! numbers chosen by bytes -/
def Bs (w : World) (a : Option Addr) (n : Nat) : Prop := ∀ j : Nat, j < n → ∃ (ad : Addr) (v : Int), a = some ad ∧ 0 ≤ v ∧ v < 256 ∧ w.cell? (ad.add j) = some (.int .u8 v)
theorem Bs.drewN {w : World} {a : Option Addr} {n : Nat} (h : Bs w a n) (m : Nat) : Bs (w.drewN m) a n := h
theorem laws_b10Long (a b : Option Addr) (la ca lb cb : Nat) (w : World) : Calls Try.prog 16 #[.slice a la ca, .slice b lb cb] w (RetV (.bool (decide (1048576 < (la : Int)) || decide (1048576 < (lb : Int)))) w) := by
  by_cases h : 1048576 < (la : Int)
  · go_enter Try.func16, Try.ntmps16
    go_wp2
    go_ret
    exact RetV.mk0 (by simp [h])
  · go_enter Try.func16, Try.ntmps16
    go_wp2
    go_ret
    exact RetV.mk0 (by rw [show decide (1048576 < (la : Int)) = false from decide_eq_false (by omega)]; rfl)
theorem laws_b10At (a : Option Addr) (la ca : Nat) (i n : Int) (hi : 0 ≤ i ∧ i ≤ 10) (hn : 2 ≤ n ∧ n ≤ 1000) (w : World) (hB : Bs w a la) :
    Calls Try.prog 17 #[.slice a la ca, .int .i64 i, .int .i64 n] w (fun e w' => ∃ r : Nat, (r : Int) < n ∧ RetV (.int .i64 r) w e w') := by
  have n1 : ¬ (n ≤ 1) := by omega
  have n0 : ¬ (n = 0) := by omega
  have nm : ¬ (n = -1) := by omega
  by_cases h : i < (la : Int)
  · obtain ⟨ad, v, rfl, v0, v1, hc⟩ := hB i.toNat (by omega)
    have i0 := hi.1
    clear hB
    go_enter Try.func17, Try.ntmps17
    go_wp2
    go_ret
    refine ⟨(v % n).toNat, ?_, RetV.mk0 ?_⟩
    · have := Int.emod_lt_of_pos v (show 0 < n by omega); have := Int.emod_nonneg v (show n ≠ 0 by omega); omega
    · show Value.int .i64 (v % n) = _
      rw [Int.toNat_of_nonneg (Int.emod_nonneg v (by omega))]
  · clear hB
    go_enter Try.func17, Try.ntmps17
    go_wp2
    go_ret
    refine ⟨((i * 37 + 11) % n).toNat, ?_, RetV.mk0 ?_⟩
    · have := Int.emod_lt_of_pos (i * 37 + 11) (show 0 < n by omega); have := Int.emod_nonneg (i * 37 + 11) (show n ≠ 0 by omega); omega
    · show Value.int .i64 ((i * 37 + 11) % n) = _
      rw [Int.toNat_of_nonneg (Int.emod_nonneg _ (by omega))]

/-! gaps -/
def GapIs (a b g : Nat) : Prop := (FloatKind.f64.format.order a b == some .lt) = true ∧ cop .sub .f64 (some b) (some a) = some g ∨ (FloatKind.f64.format.order a b == some .lt) = false ∧ cop .sub .f64 (some a) (some b) = some g
theorem gapB_is {a b : Nat} {f : Nat → Bool} (h : gapB a b f = true) : ∃ g, GapIs a b g ∧ f g = true := by
  unfold gapB at h
  cases hl : ltB .f64 a b with
  | true =>
    rw [hl] at h
    obtain ⟨g, h1, h2⟩ := forceO_is h
    exact ⟨g, .inl ⟨hl, h1⟩, h2⟩
  | false =>
    rw [hl] at h
    obtain ⟨g, h1, h2⟩ := forceO_is h
    exact ⟨g, .inr ⟨hl, h1⟩, h2⟩
theorem laws_b10Gap (a b g : Nat) (h : GapIs a b g) (w : World) : Calls Try.prog 19 #[.float .f64 a, .float .f64 b] w (RetV (.float .f64 g) w) := by
  rcases h with ⟨h1, h2⟩ | ⟨h1, h2⟩
  · have hs : ∀ t w, (binOp .sub t (.float .f64 b) (.float .f64 a)).run Try.prog w = .ok (.float .f64 g) w := fun t w => run_float_arith w .sub t .f64 _ _ _ h2
    clear h2
    go_enter Try.func19, Try.ntmps19
    go_wp2
    go_ret
    exact RetV.mk0 rfl
  · have hs : ∀ t w, (binOp .sub t (.float .f64 a) (.float .f64 b)).run Try.prog w = .ok (.float .f64 g) w := fun t w => run_float_arith w .sub t .f64 _ _ _ h2
    clear h2
    go_enter Try.func19, Try.ntmps19
    go_wp2
    go_ret
    exact RetV.mk0 rfl
end Go.Proofs.Ytlkhkpaggkpieaa
