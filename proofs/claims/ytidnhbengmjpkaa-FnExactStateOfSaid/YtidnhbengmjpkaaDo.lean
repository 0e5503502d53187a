/- What DotNumbers gives on both sides. -/
import Derived.Test.YtidnhbengmjpkaaSu
namespace Go.Proofs.Ytidnhbengmjpkaa
set_option maxRecDepth 100000
open Go.RowKit

/-- what a float operation gives in a world -/
def flv (op : BinOp) (x y : Nat) (w : World) : Nat := match floatBits op .f32 x y with | some r => r | none => Question.cut (.nanBits .f32 x y) (w.tape w.drawn (.nanBits .f32 x y))
/-- how often it draws -/
def fln (op : BinOp) (x y : Nat) : Nat := match floatBits op .f32 x y with | some _ => 0 | none => 1
theorem run_flv (op : BinOp) (hop : op = .add ∨ op = .sub ∨ op = .mul ∨ op = .quo) (t : TypeId) (x y : Nat) (w : World) :
    (binOp op t (.float .f32 x) (.float .f32 y)).run Try.prog w = .ok (.float .f32 (flv op x y w)) (w.drewN (fln op x y)) := by
  cases h : floatBits op .f32 x y with
  | some r =>
    have e1 : flv op x y w = r := by unfold flv; rw [h]
    have e2 : fln op x y = 0 := by unfold fln; rw [h]
    rw [e1, e2]
    exact run_float_arith w op t .f32 x y r h
  | none =>
    have e1 : flv op x y w = Question.cut (.nanBits .f32 x y) (w.tape w.drawn (.nanBits .f32 x y)) := by unfold flv; rw [h]
    have e2 : fln op x y = 1 := by unfold fln; rw [h]
    rw [e1, e2]
    unfold floatBits at h
    rcases hop with rfl | rfl | rfl | rfl <;> (simp only at h; simp [binOp, Op.floatArith, h, choose, Sem.run, Question.forced]; rfl)
theorem FE_flv (op : BinOp) (x y : Nat) (w : World) : FE .f32 (flv op x y w) (cop op .f32 (cn .f32 x) (cn .f32 y)) := by
  unfold flv
  cases h : floatBits op .f32 x y with
  | some r => exact ⟨by rw [← floatBits_cop, h, floatBits_cn h], wf_sign (floatBits_wf h)⟩
  | none => exact ⟨(cut_nanBits .f32 x y _).trans (by rw [← floatBits_cop, h]), cut_nanBits_lt .f32 x y _⟩

def dotC : List Nat → List Nat → Option Nat → Option Nat
  | x :: xs, y :: ys, a => dotC xs ys (cop .add .f32 a (cop .mul .f32 (cn .f32 x) (cn .f32 y)))
  | _, _, a => a
/-- behind k products -/
def dotK (xs ys : List Nat) : Nat → Option Nat
  | 0 => some 0
  | k + 1 => cop .add .f32 (dotK xs ys k) (cop .mul .f32 (cn .f32 (xs.getD k 0)) (cn .f32 (ys.getD k 0)))

theorem dot_step {xs ys : List Nat} {k s x y p r : Nat} (hs : FE .f32 s (dotK xs ys k)) (hx : x = xs.getD k 0) (hy : y = ys.getD k 0) (hp : FE .f32 p (cop .mul .f32 (cn .f32 x) (cn .f32 y))) (hr : FE .f32 r (cop .add .f32 (cn .f32 s) (cn .f32 p))) : FE .f32 r (dotK xs ys (k + 1)) := by
  refine hr.cast ?_
  rw [hs.out, hp.out, hx, hy]; rfl

set_option maxHeartbeats 2000000 in
theorem spec_l01Dot (a b : Option Addr) (cap cap2 : Nat) (xs ys : List Nat) (w : World) (hs : Fs w a xs) (ht : Fs w b ys) (hl : xs.length ≤ 1048577) (hn : ys.length = xs.length) :
    Calls Try.prog 33 #[.slice a xs.length cap, .slice b xs.length cap2] w (RetF .f32 (dotK xs ys xs.length) w) := by
  have HS := Lib.hid hs
  have HT := Lib.hid ht
  have HN := Lib.hid hn
  clear hs ht
  clear hn
  go_enter Try.func33, Try.ntmps33
  go_wp2
  go_loopw [5, 6] (fun s i wr => ∃ k r : Nat, k ≤ xs.length ∧ i = .int .i64 k ∧ s = .float .f32 r ∧ Hid (FE .f32 r (dotK xs ys k)) ∧ Hid (Dr w wr)) (fun _ i _ => xs.length - (intOf i).toNat)
  case atStart => exact ⟨0, 0, by omega, rfl, rfl, ⟨cn_zero32, by decide⟩, 0, rfl⟩
  case round =>
    obtain ⟨k, s, hk, rfl, rfl, hF, hR⟩ := hrel
    by_cases hlt : k < xs.length
    · obtain ⟨b1, off1, rfl, _, hc1⟩ := HS.out.at hlt
      obtain ⟨b2, off2, rfl, _, hc2⟩ := HT.out.at (by rw [HN.out]; exact hlt)
      have h1 : wr.cell? ⟨b1, off1 + k, none⟩ = some (.float .f32 (xs.getD k 0)) := by
        obtain ⟨nq, e⟩ := hR.out
        rw [e]; exact hc1 k hlt
      have h2 : wr.cell? ⟨b2, off2 + k, none⟩ = some (.float .f32 (ys.getD k 0)) := by
        obtain ⟨nq, e⟩ := hR.out
        rw [e]; exact hc2 k (by rw [HN.out]; exact hlt)
      clear hc1 hc2
      obtain ⟨x, hx⟩ : ∃ x, x = xs.getD k 0 := ⟨_, rfl⟩
      obtain ⟨y, hy⟩ : ∃ y, y = ys.getD k 0 := ⟨_, rfl⟩
      rw [← hx] at h1
      rw [← hy] at h2
      have XY := Lib.hid (And.intro hx hy)
      clear hx hy
      have hki : (k : Int) < (xs.length : Int) := by omega
      have hmul := fun t w => run_flv .mul (by simp) t x y w
      have hadd := fun t p w => run_flv .add (by simp) t s p w
      go_wp2
      go_region_with (fail)
      all_goals go_wp2
      all_goals go_roundw
      all_goals first
        | exact ⟨k + 1, _, by omega, by go_num, rfl, dot_step hF.out XY.out.1 XY.out.2 (FE_flv .mul x y _) (FE_flv .add s _ _), Dr.drewN hR.out _⟩
        | (simp [intOf]; omega)
    · obtain rfl : k = xs.length := by omega
      go_wp2
      go_ret
      obtain ⟨nq, e⟩ := hR.out
      rw [e]
      exact RetF.mk hF.out

def dotB (xs ys : List Nat) : Bool := decide (xs.length ≤ 256 ∧ xs.length = ys.length)
def dotR (xs ys : List Nat) : Option Nat := if dotB xs ys then dotK xs ys xs.length else some 0
theorem dotR_bad {xs ys : List Nat} (h : dotB xs ys = false) : dotR xs ys = some 0 := by unfold dotR; rw [h]; rfl
theorem dotR_good {xs ys : List Nat} (h : dotB xs ys = true) : dotR xs ys = dotK xs ys xs.length := by unfold dotR; rw [h]; rfl

set_option maxHeartbeats 1000000 in
theorem spec_DotNumbers (a b : Option Addr) (cap cap2 : Nat) (xs ys : List Nat) (w : World) (hs : Fs w a xs) (ht : Fs w b ys) (hl : xs.length ≤ 1048577) (_hl2 : ys.length ≤ 1048577) :
    Calls Try.prog 11 #[.slice a xs.length cap, .slice b ys.length cap2] w (RetFB .f32 (dotR xs ys) (dotB xs ys) w) := by
  have HS := Lib.hid hs
  have HT := Lib.hid ht
  clear hs ht
  by_cases h : xs.length ≤ 256
  · have hd := Lib.hid (decide_eq_true h)
    by_cases hn : ys.length = xs.length
    · have hB := Lib.hid (show dotB xs ys = true by unfold dotB; rw [decide_eq_true ⟨h, hn.symm⟩])
      have HN := Lib.hid hn
      rw [hn]
      clear hn
      go_enter Try.func11, Try.ntmps11
      go_wp2_with (first | (go_at_call 32; refine (spec_l01Few a cap xs.length hl _).mono ?_; rw [hd.out]; rintro _ _ ⟨nd, rfl, rfl⟩) | (go_at_call 33; refine (spec_l01Dot a b cap cap2 xs ys _ (HS.out.drewN _) (HT.out.drewN _) hl HN.out).mono ?_; rintro _ _ ⟨r, nd, rfl, hr, rfl⟩))
      go_ret2
      exact RetFB.mk (hr.cast (dotR_good hB.out).symm) hB.out.symm
    · have hB := Lib.hid (show dotB xs ys = false by unfold dotB; rw [decide_eq_false (fun q => hn q.2.symm)])
      have hne : ((xs.length : Int) != (ys.length : Int)) = true := by simp; omega
      clear hn
      go_enter Try.func11, Try.ntmps11
      go_wp2_with (first | (go_at_call 32; refine (spec_l01Few a cap xs.length hl _).mono ?_; rw [hd.out]; rintro _ _ ⟨nd, rfl, rfl⟩))
      go_ret2
      exact RetFB.mk ⟨cn_zero32.trans (dotR_bad hB.out).symm, by decide⟩ hB.out.symm
  · have hd := Lib.hid (decide_eq_false h)
    have hB := Lib.hid (show dotB xs ys = false by unfold dotB; rw [decide_eq_false (fun q => h q.1)])
    go_enter Try.func11, Try.ntmps11
    go_wp2_with (first | (go_at_call 32; refine (spec_l01Few a cap xs.length hl _).mono ?_; rw [hd.out]; rintro _ _ ⟨nd, rfl, rfl⟩))
    go_ret2
    exact RetFB.mk ⟨cn_zero32.trans (dotR_bad hB.out).symm, by decide⟩ hB.out.symm

set_option maxHeartbeats 1000000 in
theorem impl_DotNumbers (a b : Option Addr) (cap cap2 : Nat) (xs ys : List Nat) (w : World) (hs : Fs w a xs) (ht : Fs w b ys) (hl : xs.length ≤ 1048577) (_hl2 : ys.length ≤ 1048577) :
    Calls Try.prog 13 #[.slice a xs.length cap, .slice b ys.length cap2] w (RetFB .f32 (dotR xs ys) (dotB xs ys) w) := by
  have HS := Lib.hid hs
  have HT := Lib.hid ht
  clear hs ht
  by_cases h : xs.length ≤ 256
  · by_cases hn : ys.length = xs.length
    · have hB := Lib.hid (show dotB xs ys = true by unfold dotB; rw [decide_eq_true ⟨h, hn.symm⟩])
      have HN := Lib.hid hn
      rw [hn]
      clear hn
      go_enter Try.func13, Try.ntmps13
      go_wp2
      go_loopw [6, 7, 8, 21] (fun s ii xx i wr => ∃ k r nq : Nat, k ≤ xs.length ∧ i = .int .i64 k ∧ s = .float .f32 r ∧ Hid (FE .f32 r (dotK xs ys k)) ∧ wr = w.drewN nq) (fun _ _ _ i _ => xs.length - (intOf i).toNat)
      case atStart => exact ⟨0, 0, 0, by omega, rfl, rfl, ⟨cn_zero32, by decide⟩, rfl⟩
      case round =>
        obtain ⟨k, r0, nq, hk, rfl, rfl, hR, rfl⟩ := hrel
        by_cases hlt : k < xs.length
        · obtain ⟨b1, off1, rfl, _, hc1⟩ := HS.out.at hlt
          obtain ⟨b2, off2, rfl, _, hc2⟩ := HT.out.at (by rw [HN.out]; exact hlt)
          have h1 := hc1 k hlt
          have h2 := hc2 k (by rw [HN.out]; exact hlt)
          clear hc1 hc2
          obtain ⟨x, hx⟩ : ∃ x, x = xs.getD k 0 := ⟨_, rfl⟩
          obtain ⟨y, hy⟩ : ∃ y, y = ys.getD k 0 := ⟨_, rfl⟩
          rw [← hx] at h1
          rw [← hy] at h2
          have XY := Lib.hid (And.intro hx hy)
          clear hx hy
          go_wp2
          with_reducible refine up_mul _ _ _ _ _ ?_
          intro p np hp
          have HP := Lib.hid hp
          clear hp
          go_wp2_with (((first | with_reducible refine up_add _ _ _ _ _ ?_ | with_reducible refine up_sub _ _ _ _ _ ?_ | with_reducible refine up_mul _ _ _ _ _ ?_ | with_reducible refine up_quo _ _ _ _ _ ?_)); intro r nd hr)
          go_roundw
          case rel => exact ⟨k + 1, _, _, by omega, by go_num, rfl, dot_step hR.out XY.out.1 XY.out.2 HP.out hr, rfl⟩
          case measure => simp [intOf]; omega
        · obtain rfl : k = xs.length := by omega
          go_wp2
          go_ret2
          exact RetFB.mk (hR.out.cast (dotR_good hB.out).symm) hB.out.symm
    · have hB := Lib.hid (show dotB xs ys = false by unfold dotB; rw [decide_eq_false (fun q => hn q.2.symm)])
      have hne : ((xs.length : Int) != (ys.length : Int)) = true := by simp; omega
      clear hn
      go_enter Try.func13, Try.ntmps13
      go_wp2
      go_ret2
      exact RetFB.mk0 ⟨cn_zero32.trans (dotR_bad hB.out).symm, by decide⟩ hB.out.symm
  · have hB := Lib.hid (show dotB xs ys = false by unfold dotB; rw [decide_eq_false (fun q => h q.1)])
    go_enter Try.func13, Try.ntmps13
    go_wp2
    go_ret2
    exact RetFB.mk0 ⟨cn_zero32.trans (dotR_bad hB.out).symm, by decide⟩ hB.out.symm

set_option maxHeartbeats 4000000 in
theorem law_DotNumbers (a b : Option Addr) (cap cap2 : Nat) (xs ys : List Nat) (w : World) (hs : Fs w a xs) (ht : Fs w b ys) (hw : ∀ j, j < xs.length → xs.getD j 0 < 4294967296) (hv : ∀ j, j < ys.length → ys.getD j 0 < 4294967296) (hm : xs.length ≤ maxLen) (hm2 : ys.length ≤ maxLen) :
    Calls Try.prog 3 #[.slice a xs.length cap, .slice b ys.length cap2] w (RetVB (.bool true) w) := by
  unfold maxLen at hm hm2
  by_cases hl : xs.length ≤ 1048576
  · by_cases hl2 : ys.length ≤ 1048576
    · have HS := Lib.hid hs
      have HT := Lib.hid ht
      have HW := Lib.hid hw
      have HV := Lib.hid hv
      clear hs ht hw hv
      go_enter Try.func3, Try.ntmps3
      go_wp2_with fail
      refine (laws_toFloat32S a cap xs _ HS.out hl).mono ?_
      rintro _ w1 ⟨b1, rfl, _, hR1, hB1⟩
      have H1 := Lib.hid (And.intro hR1 hB1)
      clear hR1 hB1
      go_wp2_with fail
      refine (laws_toFloat32S b cap2 ys _ (HT.out.below H1.out.2) hl2).mono ?_
      rintro _ w2 ⟨b2, rfl, _, hR2, hB2⟩
      have H2 := Lib.hid (And.intro hR2 (And.intro (H1.out.1.below hB2) (H1.out.2.trans (hB2.mono H1.out.2.size))))
      clear hR2 hB2
      go_wp2_with fail
      refine (spec_DotNumbers _ _ xs.length ys.length xs ys _ H2.out.2.1.Fs H2.out.1.Fs (by omega) (by omega)).mono ?_
      rintro _ _ ⟨r1, n1, rfl, hr1, rfl⟩
      have HR1 := Lib.hid hr1
      clear hr1
      go_wp2_with fail
      refine (laws_toFloat32S a cap xs _ ((HS.out.below H2.out.2.2).drewN _) hl).mono ?_
      rintro _ w3 ⟨b3, rfl, _, hR3, hB3⟩
      have H3 := Lib.hid (And.intro hR3 ((below_drewN' H2.out.2.2 n1).trans (hB3.mono H2.out.2.2.size)))
      clear hR3 hB3
      go_wp2_with fail
      refine (laws_toFloat32S b cap2 ys _ (HT.out.below H3.out.2) hl2).mono ?_
      rintro _ w4 ⟨b4, rfl, _, hR4, hB4⟩
      have H4 := Lib.hid (And.intro hR4 (And.intro (H3.out.1.below hB4) (H3.out.2.trans (hB4.mono H3.out.2.size))))
      clear hR4 hB4
      go_wp2_with fail
      refine (impl_DotNumbers _ _ xs.length ys.length xs ys _ H4.out.2.1.Fs H4.out.1.Fs (by omega) (by omega)).mono ?_
      rintro _ _ ⟨r2, n2, rfl, hr2, rfl⟩
      have HR2 := Lib.hid hr2
      clear hr2
      go_wp2_with (first | ((with_reducible refine up_up _ _ ?_); intro r nd hr) | (go_at_call 14; refine (laws_sameFloat _ _ ?hs _).mono ?_; rotate_left; rintro _ _ ⟨nd, rfl, rfl⟩))
      case hs =>
        go_tidy
        have a1 := HR1.out.out
        have a2 := HR2.out.out
        clear HR1 HR2 HS HT H1 H2 H3 H4 HW HV
        simp_all [FE]
      refine (laws_toFloat32S a cap xs _ ((HS.out.below H4.out.2.2).drewN _) hl).mono ?_
      rintro _ w5 ⟨b5, rfl, _, hR5, hB5⟩
      have H5 := Lib.hid (And.intro hR5 (And.intro ((H4.out.2.1.drewN _).below hB5) (And.intro ((H4.out.1.drewN _).below hB5) ((below_drewN' H4.out.2.2 _).trans (hB5.mono H4.out.2.2.size)))))
      clear hR5 hB5 hr
      go_wp2_with fail
      refine (laws_eqFloat32S _ _ xs.length xs.length xs xs _ H5.out.2.1.Fs H5.out.1.Fs (by omega) rfl HW.out (fun _ _ => rfl)).mono ?_
      rintro _ _ ⟨n3, rfl, rfl⟩
      go_wp2_with fail
      refine (laws_toFloat32S b cap2 ys _ ((HT.out.below H5.out.2.2.2).drewN _) hl2).mono ?_
      rintro _ w6 ⟨b6, rfl, _, hR6, hB6⟩
      have H6 := Lib.hid (And.intro hR6 (And.intro ((H5.out.2.2.1.drewN _).below hB6) ((below_drewN' H5.out.2.2.2 _).trans (hB6.mono H5.out.2.2.2.size))))
      clear hR6 hB6
      go_wp2_with fail
      refine (laws_eqFloat32S _ _ ys.length ys.length ys ys _ H6.out.2.1.Fs H6.out.1.Fs (by omega) rfl HV.out (fun _ _ => rfl)).mono ?_
      rintro _ _ ⟨n4, rfl, rfl⟩
      go_wp2
      go_ret
      exact ⟨rfl, below_drewN' H6.out.2.2 _⟩
    · go_enter Try.func3, Try.ntmps3
      go_wp2
      go_ret
      exact ⟨rfl, Below.refl _ _⟩
  · go_enter Try.func3, Try.ntmps3
    go_wp2
    go_ret
    exact ⟨rfl, Below.refl _ _⟩
end Go.Proofs.Ytidnhbengmjpkaa
