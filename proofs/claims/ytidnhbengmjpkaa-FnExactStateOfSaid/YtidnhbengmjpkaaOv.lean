/- What OverlapOf gives on both sides. -/
import Derived.Test.YtidnhbengmjpkaaDo
namespace Go.Proofs.Ytidnhbengmjpkaa
set_option maxRecDepth 100000
set_option linter.unusedVariables false
open Go.RowKit

/-! whether all numbers are finite; a number that must be finite -/
set_option maxHeartbeats 1000000 in
theorem spec_l02Finite (a : Option Addr) (cap : Nat) (xs : List Nat) (w : World) (hs : Fs w a xs) (hl : xs.length ≤ 1048577) :
    Calls Try.prog 36 #[.slice a xs.length cap] w (RetV (.bool (allFin xs)) w) := by
  have HS := Lib.hid hs
  clear hs
  go_enter Try.func36, Try.ntmps36
  go_wp2
  go_loopw [3] (fun i wr => ∃ k nq : Nat, k ≤ xs.length ∧ i = .int .i64 k ∧ Hid ((xs.take k).all (fun x => isFin (cn .f32 x)) = true) ∧ wr = w.drewN nq) (fun i _ => xs.length - (intOf i).toNat)
  case atStart => exact ⟨0, 0, Nat.zero_le _, rfl, rfl, rfl⟩
  case round =>
    obtain ⟨k, nq, hk, rfl, ha, rfl⟩ := hrel
    by_cases hlt : k < xs.length
    · obtain ⟨b, off, rfl, hb, hc⟩ := HS.out.at hlt
      have hcell := hc k hlt
      clear hc
      obtain ⟨v, hv⟩ : ∃ v, v = xs.getD k 0 := ⟨_, rfl⟩
      rw [← hv] at hcell
      have V := Lib.hid hv
      clear hv
      cases hp : isFin (cn .f32 v) with
      | true =>
        have P := Lib.hid hp
        clear hp
        go_wp2_with (go_at_call 47; refine (spec_l01Finite _ _).mono ?_; rw [P.out]; rintro _ _ ⟨nd, rfl, rfl⟩)
        go_roundw
        case rel => exact ⟨k + 1, _, by omega, by go_num, by show _ = true; rw [all_snoc _ _ _ hlt, ha.out, ← V.out, P.out]; rfl, rfl⟩
        case measure => simp [intOf]; omega
      | false =>
        have P := Lib.hid hp
        clear hp
        go_wp2_with (go_at_call 47; refine (spec_l01Finite _ _).mono ?_; rw [P.out]; rintro _ _ ⟨nd, rfl, rfl⟩)
        go_ret
        refine RetV.mk ?_
        rw [allFin, all_bad (fun x => isFin (cn .f32 x)) xs k hlt (by rw [← V.out]; exact P.out)]
        rfl
    · have hall := Lib.hid (show xs.take k = xs from List.take_of_length_le (by omega))
      go_wp2
      go_ret
      refine RetV.mk ?_
      have := ha.out
      rw [hall.out] at this
      rw [allFin, this]
      rfl

def numC (c : Option Nat) : Option Nat := if isFin c then c else some 0
set_option maxHeartbeats 400000 in
theorem spec_l02Number (x : Nat) (hx : x < 4294967296) (w : World) :
    Calls Try.prog 37 #[.float .f32 x] w (RetFB .f32 (numC (cn .f32 x)) (isFin (cn .f32 x)) w) := by
  cases hp : isFin (cn .f32 x) with
  | true =>
    have P := Lib.hid (And.intro hp (show numC (cn .f32 x) = cn .f32 x by unfold numC; rw [hp]; rfl))
    clear hp
    go_enter Try.func37, Try.ntmps37
    go_wp2_with (go_at_call 47; refine (spec_l01Finite _ _).mono ?_; rw [P.out.1]; rintro _ _ ⟨nd, rfl, rfl⟩)
    go_ret2
    exact RetFB.mk ⟨P.out.2.symm, by rw [f32_sign]; omega⟩ rfl
  | false =>
    have P := Lib.hid (And.intro hp (show numC (cn .f32 x) = some 0 by unfold numC; rw [hp]; rfl))
    clear hp
    go_enter Try.func37, Try.ntmps37
    go_wp2_with (go_at_call 47; refine (spec_l01Finite _ _).mono ?_; rw [P.out.1]; rintro _ _ ⟨nd, rfl, rfl⟩)
    go_ret2
    exact RetFB.mk ⟨cn_zero32.trans P.out.2.symm, by decide⟩ rfl
set_option maxHeartbeats 400000 in
theorem impl_checked (x : Nat) (hx : x < 4294967296) (w : World) :
    Calls Try.prog 39 #[.float .f32 x] w (RetFB .f32 (numC (cn .f32 x)) (isFin (cn .f32 x)) w) := by
  cases hp : isFin (cn .f32 x) with
  | true =>
    have P := Lib.hid (And.intro hp (show numC (cn .f32 x) = cn .f32 x by unfold numC; rw [hp]; rfl))
    clear hp
    go_enter Try.func39, Try.ntmps39
    go_wp2_with (go_at_call 50; refine (impl_IsFinite _ _).mono ?_; rw [P.out.1]; rintro _ _ ⟨nd, rfl, rfl⟩)
    go_ret2
    exact RetFB.mk ⟨P.out.2.symm, by rw [f32_sign]; omega⟩ rfl
  | false =>
    have P := Lib.hid (And.intro hp (show numC (cn .f32 x) = some 0 by unfold numC; rw [hp]; rfl))
    clear hp
    go_enter Try.func39, Try.ntmps39
    go_wp2_with (go_at_call 50; refine (impl_IsFinite _ _).mono ?_; rw [P.out.1]; rintro _ _ ⟨nd, rfl, rfl⟩)
    go_ret2
    exact RetFB.mk ⟨cn_zero32.trans P.out.2.symm, by decide⟩ rfl

/-! the overlap -/
def ovB (xs ys : List Nat) : Bool := decide (1 ≤ xs.length ∧ xs.length ≤ 48 ∧ ys.length = xs.length) && (allFin xs && allFin ys)
def ovF (xs ys : List Nat) : Bool := ovB xs ys && isFin (dotK xs ys xs.length)
def ovR (xs ys : List Nat) : Option Nat := if ovF xs ys then dotK xs ys xs.length else some 0
theorem ovR_bad {xs ys : List Nat} (h : ovF xs ys = false) : ovR xs ys = some 0 := by unfold ovR; rw [h]; rfl
theorem ovF_good {xs ys : List Nat} (h : ovB xs ys = true) : ovF xs ys = isFin (dotK xs ys xs.length) := by unfold ovF; rw [h]; rfl
theorem ovR_good {xs ys : List Nat} (h : ovB xs ys = true) : ovR xs ys = numC (dotK xs ys xs.length) := by unfold ovR numC; rw [ovF_good h]

set_option maxHeartbeats 2000000 in
theorem spec_OverlapOf (a b : Option Addr) (cap cap2 : Nat) (xs ys : List Nat) (w : World) (hs : Fs w a xs) (ht : Fs w b ys) (hl : xs.length ≤ 1048577) (hl2 : ys.length ≤ 1048577) :
    Calls Try.prog 18 #[.slice a xs.length cap, .slice b ys.length cap2] w (RetFB .f32 (ovR xs ys) (ovF xs ys) w) := by
  have HS := Lib.hid hs
  have HT := Lib.hid ht
  clear hs ht
  by_cases g1 : 1 ≤ xs.length
  · by_cases g2 : xs.length ≤ 48
    · by_cases hn : ys.length = xs.length
      · have HN := Lib.hid hn
        cases hx : allFin xs with
        | false =>
          have hB := Lib.hid (show ovF xs ys = false by unfold ovF ovB; rw [hx]; simp)
          have HX := Lib.hid hx
          rw [hn]
          clear hx hn
          go_enter Try.func18, Try.ntmps18
          go_wp2_with fail
          refine (spec_l02Finite a cap xs _ HS.out hl).mono ?_
          rw [HX.out]
          rintro _ _ ⟨n1, rfl, rfl⟩
          go_wp2
          go_ret2
          exact RetFB.mk ⟨cn_zero32.trans (ovR_bad hB.out).symm, by decide⟩ hB.out.symm
        | true =>
          have HX := Lib.hid hx
          cases hy : allFin ys with
          | false =>
            have hB := Lib.hid (show ovF xs ys = false by unfold ovF ovB; rw [hy]; simp)
            have HY := Lib.hid hy
            have hf := Lib.hid (fun w' (q : Fs w' b ys) => spec_l02Finite b cap2 ys w' q hl2)
            rw [hn] at hf ⊢
            clear hx hn hy
            go_enter Try.func18, Try.ntmps18
            go_wp2_with fail
            refine (spec_l02Finite a cap xs _ HS.out hl).mono ?_
            rw [HX.out]
            rintro _ _ ⟨n1, rfl, rfl⟩
            go_wp2_with fail
            refine (hf.out _ (HT.out.drewN _)).mono ?_
            rw [HY.out]
            rintro _ _ ⟨n2, rfl, rfl⟩
            go_wp2
            go_ret2
            exact RetFB.mk ⟨cn_zero32.trans (ovR_bad hB.out).symm, by decide⟩ hB.out.symm
          | true =>
            have HB := Lib.hid (show ovB xs ys = true by unfold ovB; rw [hx, hy, decide_eq_true ⟨g1, g2, hn⟩]; rfl)
            have HY := Lib.hid hy
            have hf := Lib.hid (fun w' (q : Fs w' b ys) => spec_l02Finite b cap2 ys w' q hl2)
            rw [hn] at hf ⊢
            clear hx hn hy
            go_enter Try.func18, Try.ntmps18
            go_wp2_with fail
            refine (spec_l02Finite a cap xs _ HS.out hl).mono ?_
            rw [HX.out]
            rintro _ _ ⟨n1, rfl, rfl⟩
            go_wp2_with fail
            refine (hf.out _ (HT.out.drewN _)).mono ?_
            rw [HY.out]
            rintro _ _ ⟨n2, rfl, rfl⟩
            go_wp2_with fail
            refine (spec_l01Dot a b cap cap2 xs ys _ (HS.out.drewN _) (HT.out.drewN _) hl HN.out).mono ?_
            rintro _ _ ⟨r, nr, rfl, hr, rfl⟩
            have HR := Lib.hid hr
            clear hr
            go_wp2_with fail
            refine (spec_l02Number r (by have := HR.out.lt; rw [f32_sign] at this; omega) _).mono ?_
            rintro _ _ ⟨q, nq, rfl, hq, rfl⟩
            have HQ := Lib.hid hq
            clear hq
            go_wp2
            go_ret2
            exact RetFB.mk (HQ.out.cast (by rw [HR.out.out, ovR_good HB.out])) (by rw [HR.out.out, ovF_good HB.out])
      · have hB := Lib.hid (show ovF xs ys = false by unfold ovF ovB; rw [decide_eq_false (fun q => hn q.2.2)]; rfl)
        have hne : ((ys.length : Int) != (xs.length : Int)) = true := by simp; omega
        clear hn
        go_enter Try.func18, Try.ntmps18
        go_wp2
        go_ret2
        exact RetFB.mk0 ⟨cn_zero32.trans (ovR_bad hB.out).symm, by decide⟩ hB.out.symm
    · have hB := Lib.hid (show ovF xs ys = false by unfold ovF ovB; rw [decide_eq_false (fun q => g2 q.2.1)]; rfl)
      go_enter Try.func18, Try.ntmps18
      go_wp2
      go_ret2
      exact RetFB.mk0 ⟨cn_zero32.trans (ovR_bad hB.out).symm, by decide⟩ hB.out.symm
  · have hB := Lib.hid (show ovF xs ys = false by unfold ovF ovB; rw [decide_eq_false (fun q => g1 q.1)]; rfl)
    go_enter Try.func18, Try.ntmps18
    go_wp2
    go_ret2
    exact RetFB.mk0 ⟨cn_zero32.trans (ovR_bad hB.out).symm, by decide⟩ hB.out.symm

set_option maxHeartbeats 2000000 in
theorem impl_OverlapOf (a b : Option Addr) (cap cap2 : Nat) (xs ys : List Nat) (w : World) (hs : Fs w a xs) (ht : Fs w b ys) (hl : xs.length ≤ 1048577) (hl2 : ys.length ≤ 1048577) :
    Calls Try.prog 19 #[.slice a xs.length cap, .slice b ys.length cap2] w (RetFB .f32 (ovR xs ys) (ovF xs ys) w) := by
  have HS := Lib.hid hs
  have HT := Lib.hid ht
  clear hs ht
  by_cases g1 : 1 ≤ xs.length
  · by_cases g2 : xs.length ≤ 48
    · by_cases hn : ys.length = xs.length
      · have HN := Lib.hid hn
        cases hx : allFin xs with
        | false =>
          have hB := Lib.hid (show ovF xs ys = false by unfold ovF ovB; rw [hx]; simp)
          have HX := Lib.hid hx
          rw [hn]
          clear hx hn
          go_enter Try.func19, Try.ntmps19
          go_wp2_with fail
          refine (impl_areFinite a cap xs _ HS.out hl).mono ?_
          rw [HX.out]
          rintro _ _ ⟨n1, rfl, rfl⟩
          go_wp2
          go_ret2
          exact RetFB.mk ⟨cn_zero32.trans (ovR_bad hB.out).symm, by decide⟩ hB.out.symm
        | true =>
          have HX := Lib.hid hx
          cases hy : allFin ys with
          | false =>
            have hB := Lib.hid (show ovF xs ys = false by unfold ovF ovB; rw [hy]; simp)
            have HY := Lib.hid hy
            have hf := Lib.hid (fun w' (q : Fs w' b ys) => impl_areFinite b cap2 ys w' q hl2)
            rw [hn] at hf ⊢
            clear hx hn hy
            go_enter Try.func19, Try.ntmps19
            go_wp2_with fail
            refine (impl_areFinite a cap xs _ HS.out hl).mono ?_
            rw [HX.out]
            rintro _ _ ⟨n1, rfl, rfl⟩
            go_wp2_with fail
            refine (hf.out _ (HT.out.drewN _)).mono ?_
            rw [HY.out]
            rintro _ _ ⟨n2, rfl, rfl⟩
            go_wp2
            go_ret2
            exact RetFB.mk ⟨cn_zero32.trans (ovR_bad hB.out).symm, by decide⟩ hB.out.symm
          | true =>
            have HB := Lib.hid (show ovB xs ys = true by unfold ovB; rw [hx, hy, decide_eq_true ⟨g1, g2, hn⟩]; rfl)
            have HY := Lib.hid hy
            have hf := Lib.hid (fun w' (q : Fs w' b ys) => impl_areFinite b cap2 ys w' q hl2)
            rw [hn] at hf ⊢
            clear hx hn hy
            go_enter Try.func19, Try.ntmps19
            go_wp2_with fail
            refine (impl_areFinite a cap xs _ HS.out hl).mono ?_
            rw [HX.out]
            rintro _ _ ⟨n1, rfl, rfl⟩
            go_wp2_with fail
            refine (hf.out _ (HT.out.drewN _)).mono ?_
            rw [HY.out]
            rintro _ _ ⟨n2, rfl, rfl⟩
            go_wp2
            go_loopw [6, 7, 8, 36] (fun s ii xx i wr => ∃ k r nq : Nat, k ≤ xs.length ∧ i = .int .i64 k ∧ s = .float .f32 r ∧ Hid (FE .f32 r (dotK xs ys k)) ∧ wr = w.drewN nq) (fun _ _ _ i _ => xs.length - (intOf i).toNat)
            case atStart => exact ⟨0, 0, _, by omega, rfl, rfl, ⟨cn_zero32, by decide⟩, rfl⟩
            case round =>
              obtain ⟨k, r0, nq, hk, rfl, rfl, hR, rfl⟩ := hrel
              by_cases hlt : k < xs.length
              · obtain ⟨b1, off1, rfl, _, hc1⟩ := HS.out.at hlt
                obtain ⟨b2, off2, rfl, _, hc2⟩ := HT.out.at (by rw [HN.out]; exact hlt)
                have h1 := hc1 k hlt
                have h2 := hc2 k (by rw [HN.out]; exact hlt)
                clear hc1 hc2
                obtain ⟨x, hx⟩ : ∃ x, x = xs.getD k 0 := ⟨_, rfl⟩
                obtain ⟨y, hy⟩ : ∃ y, y = ys.getD k 0 := ⟨_, rfl⟩
                rw [← hx] at h1
                rw [← hy] at h2
                have XY := Lib.hid (And.intro hx hy)
                clear hx hy
                go_wp2
                with_reducible refine up_mul _ _ _ _ _ ?_
                intro p np hp
                have HP := Lib.hid hp
                clear hp
                go_wp2_with (((first | with_reducible refine up_add _ _ _ _ _ ?_ | with_reducible refine up_sub _ _ _ _ _ ?_ | with_reducible refine up_mul _ _ _ _ _ ?_ | with_reducible refine up_quo _ _ _ _ _ ?_)); intro r nd hr)
                go_roundw
                case rel => exact ⟨k + 1, _, _, by omega, by go_num, rfl, dot_step hR.out XY.out.1 XY.out.2 HP.out hr, rfl⟩
                case measure => simp [intOf]; omega
              · obtain rfl : k = xs.length := by omega
                go_wp2_with fail
                refine (impl_checked r0 (by have := hR.out.lt; rw [f32_sign] at this; omega) _).mono ?_
                rintro _ _ ⟨q, nq2, rfl, hq, rfl⟩
                have HQ := Lib.hid hq
                clear hq
                go_wp2
                go_ret2
                exact RetFB.mk (HQ.out.cast (by rw [hR.out.out, ovR_good HB.out])) (by rw [hR.out.out, ovF_good HB.out])
      · have hB := Lib.hid (show ovF xs ys = false by unfold ovF ovB; rw [decide_eq_false (fun q => hn q.2.2)]; rfl)
        have hne : ((ys.length : Int) != (xs.length : Int)) = true := by simp; omega
        clear hn
        go_enter Try.func19, Try.ntmps19
        go_wp2
        go_ret2
        exact RetFB.mk0 ⟨cn_zero32.trans (ovR_bad hB.out).symm, by decide⟩ hB.out.symm
    · have hB := Lib.hid (show ovF xs ys = false by unfold ovF ovB; rw [decide_eq_false (fun q => g2 q.2.1)]; rfl)
      go_enter Try.func19, Try.ntmps19
      go_wp2
      go_ret2
      exact RetFB.mk0 ⟨cn_zero32.trans (ovR_bad hB.out).symm, by decide⟩ hB.out.symm
  · have hB := Lib.hid (show ovF xs ys = false by unfold ovF ovB; rw [decide_eq_false (fun q => g1 q.1)]; rfl)
    go_enter Try.func19, Try.ntmps19
    go_wp2
    go_ret2
    exact RetFB.mk0 ⟨cn_zero32.trans (ovR_bad hB.out).symm, by decide⟩ hB.out.symm

set_option maxHeartbeats 4000000 in
theorem law_OverlapOf (a b : Option Addr) (cap cap2 : Nat) (xs ys : List Nat) (w : World) (hs : Fs w a xs) (ht : Fs w b ys) (hw : ∀ j, j < xs.length → xs.getD j 0 < 4294967296) (hv : ∀ j, j < ys.length → ys.getD j 0 < 4294967296) (hm : xs.length ≤ maxLen) (hm2 : ys.length ≤ maxLen) :
    Calls Try.prog 5 #[.slice a xs.length cap, .slice b ys.length cap2] w (RetVB (.bool true) w) := by
  unfold maxLen at hm hm2
  by_cases hl : xs.length ≤ 1048576
  · by_cases hl2 : ys.length ≤ 1048576
    · have HS := Lib.hid hs
      have HT := Lib.hid ht
      have HW := Lib.hid hw
      have HV := Lib.hid hv
      clear hs ht hw hv
      go_enter Try.func5, Try.ntmps5
      go_wp2_with fail
      refine (laws_toFloat32S a cap xs _ HS.out hl).mono ?_
      rintro _ w1 ⟨b1, rfl, _, hR1, hB1⟩
      have H1 := Lib.hid (And.intro hR1 hB1)
      clear hR1 hB1
      go_wp2_with fail
      refine (laws_toFloat32S b cap2 ys _ (HT.out.below H1.out.2) hl2).mono ?_
      rintro _ w2 ⟨b2, rfl, _, hR2, hB2⟩
      have H2 := Lib.hid (And.intro hR2 (And.intro (H1.out.1.below hB2) (H1.out.2.trans (hB2.mono H1.out.2.size))))
      clear hR2 hB2
      go_wp2_with fail
      refine (spec_OverlapOf _ _ xs.length ys.length xs ys _ H2.out.2.1.Fs H2.out.1.Fs (by omega) (by omega)).mono ?_
      rintro _ _ ⟨r1, n1, rfl, hr1, rfl⟩
      have HR1 := Lib.hid hr1
      clear hr1
      go_wp2_with fail
      refine (laws_toFloat32S a cap xs _ ((HS.out.below H2.out.2.2).drewN _) hl).mono ?_
      rintro _ w3 ⟨b3, rfl, _, hR3, hB3⟩
      have H3 := Lib.hid (And.intro hR3 ((below_drewN' H2.out.2.2 n1).trans (hB3.mono H2.out.2.2.size)))
      clear hR3 hB3
      go_wp2_with fail
      refine (laws_toFloat32S b cap2 ys _ (HT.out.below H3.out.2) hl2).mono ?_
      rintro _ w4 ⟨b4, rfl, _, hR4, hB4⟩
      have H4 := Lib.hid (And.intro hR4 (And.intro (H3.out.1.below hB4) (H3.out.2.trans (hB4.mono H3.out.2.size))))
      clear hR4 hB4
      go_wp2_with fail
      refine (impl_OverlapOf _ _ xs.length ys.length xs ys _ H4.out.2.1.Fs H4.out.1.Fs (by omega) (by omega)).mono ?_
      rintro _ _ ⟨r2, n2, rfl, hr2, rfl⟩
      have HR2 := Lib.hid hr2
      clear hr2
      go_wp2_with (first | ((with_reducible refine up_up _ _ ?_); intro r nd hr) | (go_at_call 14; refine (laws_sameFloat _ _ ?hs _).mono ?_; rotate_left; rintro _ _ ⟨nd, rfl, rfl⟩))
      case hs =>
        go_tidy
        have a1 := HR1.out.out
        have a2 := HR2.out.out
        clear HR1 HR2 HS HT H1 H2 H3 H4 HW HV
        simp_all [FE]
      refine (laws_toFloat32S a cap xs _ ((HS.out.below H4.out.2.2).drewN _) hl).mono ?_
      rintro _ w5 ⟨b5, rfl, _, hR5, hB5⟩
      have H5 := Lib.hid (And.intro hR5 (And.intro ((H4.out.2.1.drewN _).below hB5) (And.intro ((H4.out.1.drewN _).below hB5) ((below_drewN' H4.out.2.2 _).trans (hB5.mono H4.out.2.2.size)))))
      clear hR5 hB5 hr
      go_wp2_with fail
      refine (laws_eqFloat32S _ _ xs.length xs.length xs xs _ H5.out.2.1.Fs H5.out.1.Fs (by omega) rfl HW.out (fun _ _ => rfl)).mono ?_
      rintro _ _ ⟨n3, rfl, rfl⟩
      go_wp2_with fail
      refine (laws_toFloat32S b cap2 ys _ ((HT.out.below H5.out.2.2.2).drewN _) hl2).mono ?_
      rintro _ w6 ⟨b6, rfl, _, hR6, hB6⟩
      have H6 := Lib.hid (And.intro hR6 (And.intro ((H5.out.2.2.1.drewN _).below hB6) ((below_drewN' H5.out.2.2.2 _).trans (hB6.mono H5.out.2.2.2.size))))
      clear hR6 hB6
      go_wp2_with fail
      refine (laws_eqFloat32S _ _ ys.length ys.length ys ys _ H6.out.2.1.Fs H6.out.1.Fs (by omega) rfl HV.out (fun _ _ => rfl)).mono ?_
      rintro _ _ ⟨n4, rfl, rfl⟩
      go_wp2
      go_ret
      exact ⟨rfl, below_drewN' H6.out.2.2 _⟩
    · go_enter Try.func5, Try.ntmps5
      go_wp2
      go_ret
      exact ⟨rfl, Below.refl _ _⟩
  · go_enter Try.func5, Try.ntmps5
    go_wp2
    go_ret
    exact ⟨rfl, Below.refl _ _⟩
end Go.Proofs.Ytidnhbengmjpkaa
