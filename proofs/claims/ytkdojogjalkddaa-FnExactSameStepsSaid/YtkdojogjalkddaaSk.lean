/- The statement on SameSteps, walked. -/
import Derived.Test.YtkdojogjalkddaaKp
namespace Go.Proofs.Ytkdojogjalkddaa
set_option maxRecDepth 100000
set_option linter.unusedVariables false
open Go.RowKit

theorem two_new (w : World) (u v u' v' : Value) (T T' : TypeId) : Kp w [(w.heap.size + 1, u', v'), (w.heap.size, u, v)] [] ((w.alloc (.cells #[u, v] T)).alloc (.cells #[u', v'] T')) := by
  have h := ((Kp.start w).new u v T).new u' v' T'
  rwa [World.size_alloc] at h

set_option maxHeartbeats 4000000 in
theorem law_SameSteps (a b a' b' : Option Addr) (c d c' d' : Nat) (xs ys xs' ys' : List Nat) (w : World) (hs : Fs w a xs) (ht : Fs w b ys) (hs' : Fs w a' xs') (ht' : Fs w b' ys')
    (hw : ∀ j, j < xs.length → xs.getD j 0 < 4294967296) (hw2 : ∀ j, j < ys.length → ys.getD j 0 < 4294967296) (hw3 : ∀ j, j < xs'.length → xs'.getD j 0 < 4294967296) (hw4 : ∀ j, j < ys'.length → ys'.getD j 0 < 4294967296)
    (hm : xs.length ≤ maxLen) (hm2 : ys.length ≤ maxLen) (hm3 : xs'.length ≤ maxLen) (hm4 : ys'.length ≤ maxLen) :
    Calls Try.prog 4 #[.agg #[.slice a xs.length c, .slice b ys.length d], .agg #[.slice a' xs'.length c', .slice b' ys'.length d']] w (RetVB (.bool true) w) := by
  have HA := Lib.hid (And.intro hs ht)
  have HB := Lib.hid (And.intro hs' ht')
  have WA := Lib.hid (And.intro hw hw2)
  have WB := Lib.hid (And.intro hw3 hw4)
  clear hs ht hs' ht' hw hw2 hw3 hw4
  unfold maxLen at hm hm2 hm3 hm4
  by_cases hl : xs.length + ys.length ≤ 1048576
  · by_cases hl' : xs'.length + ys'.length ≤ 1048576 - xs.length - ys.length
    · obtain ⟨v, hv⟩ : ∃ v, v = (smB xs xs' && smB ys ys') := ⟨_, rfl⟩
      have HV := Lib.hid hv.symm
      clear hv
      have l1 : xs.length ≤ 1048576 := by omega
      have l2 : ys.length ≤ 1048576 := by omega
      have l3 : xs'.length ≤ 1048576 := by omega
      have l4 : ys'.length ≤ 1048576 := by omega
      go_enter Try.func4, Try.ntmps4
      go_wp2_with fail
      refine (laws_szSteps_small a b xs.length ys.length c d 1048576 hl (by omega) _).mono ?_
      rintro _ w1 ⟨rfl, hB1⟩
      have K1 := Lib.hid ((two_new w (.slice a xs.length c) (.slice b ys.length d) (.slice a' xs'.length c') (.slice b' ys'.length d') _ _).below hB1)
      clear hB1
      obtain ⟨k0, k1, k2⟩ := K1.out.nth 1 rfl
      obtain ⟨j0, j1, j2⟩ := K1.out.nth 0 rfl
      go_wp2_with fail
      refine (laws_szSteps_small a' b' xs'.length ys'.length c' d' (1048576 - xs.length - ys.length) hl' (by omega) _).mono ?_
      rintro _ w2 ⟨rfl, hB1⟩
      have K2 := Lib.hid (K1.out.below hB1)
      clear hB1 K1 k0 k1 k2 j0 j1 j2
      obtain ⟨k0, k1, k2⟩ := K2.out.nth 1 rfl
      obtain ⟨j0, j1, j2⟩ := K2.out.nth 0 rfl
      have FA := Lib.hid K2.out.drew
      go_wp2_with fail
      go_region_held3 (fun w' => w'.cell? ⟨w.heap.size, 0, none⟩ = some (.slice a xs.length c) ∧ w'.cell? ⟨w.heap.size, 1, none⟩ = some (.slice b ys.length d) ∧ w'.cell? ⟨w.heap.size + 1, 0, none⟩ = some (.slice a' xs'.length c') ∧ w'.cell? ⟨w.heap.size + 1, 1, none⟩ = some (.slice b' ys'.length d')) (first | exact (two_blocks (by assumption) (by assumption)) | go_keep)
        (first
          | (go_at_call_of 10 (Value.agg #[.slice a xs.length c, .slice b ys.length d]); refine (laws_toSteps a b c d xs ys _ (FA.out.fs HA.out.1) (FA.out.fs HA.out.2) l1 l2).mono ?_; rintro _ wFB ⟨gA, hA, rfl, _, _, _, hR6, hR7, hB6⟩; have FB := Lib.hid (FA.out.steps hR6 hR7 hB6); clear FA hR6 hR7 hB6; have q0 := FB.out.nth 1 rfl; have q1 := FB.out.nth 0 rfl)
          | (go_at_call_of 10 (Value.agg #[.slice a' xs'.length c', .slice b' ys'.length d']); refine (laws_toSteps a' b' c' d' xs' ys' _ (FA.out.fs HB.out.1) (FA.out.fs HB.out.2) l3 l4).mono ?_; rintro _ wFB ⟨gB, hB, rfl, _, _, _, hR6, hR7, hB6⟩; have FB := Lib.hid (FA.out.steps hR6 hR7 hB6); clear FA hR6 hR7 hB6; have q0 := FB.out.nth 1 rfl; have q1 := FB.out.nth 0 rfl)
          | (go_at_call_of 10 (Value.agg #[.slice a xs.length c, .slice b ys.length d]); refine (laws_toSteps a b c d xs ys _ (FB.out.fs HA.out.1) (FB.out.fs HA.out.2) l1 l2).mono ?_; rintro _ wFC ⟨gA, hA, rfl, _, _, _, hR6, hR7, hB6⟩; have FC := Lib.hid (FB.out.steps hR6 hR7 hB6); clear FB hR6 hR7 hB6; have q0 := FC.out.nth 1 rfl; have q1 := FC.out.nth 0 rfl)
          | (go_at_call_of 10 (Value.agg #[.slice a' xs'.length c', .slice b' ys'.length d']); refine (laws_toSteps a' b' c' d' xs' ys' _ (FB.out.fs HB.out.1) (FB.out.fs HB.out.2) l3 l4).mono ?_; rintro _ wFC ⟨gB, hB, rfl, _, _, _, hR6, hR7, hB6⟩; have FC := Lib.hid (FB.out.steps hR6 hR7 hB6); clear FB hR6 hR7 hB6; have q0 := FC.out.nth 1 rfl; have q1 := FC.out.nth 0 rfl)
          | (go_at_call 13; refine (spec_SameSteps _ _ _ _ _ _ _ _ xs ys xs' ys' _ (FC.out.row gA (by simp)).Fs (FC.out.row hA (by simp)).Fs (FC.out.row gB (by simp)).Fs (FC.out.row hB (by simp)).Fs l1 l2 l3 l4 WA.out.1 WA.out.2 WB.out.1 WB.out.2).mono ?_; rw [HV.out]; rintro _ w8 ⟨rfl, hB8⟩; have FD := Lib.hid (FC.out.below hB8); clear FC hB8; have q0 := FD.out.nth 1 rfl; have q1 := FD.out.nth 0 rfl))
      all_goals
        have E0 := Lib.hid FD.out.forget
        clear FD q0 q1
        obtain ⟨k0, k1, k2⟩ := E0.out.nth 1 rfl
        obtain ⟨j0, j1, j2⟩ := E0.out.nth 0 rfl
        go_wp2_with fail
        refine (laws_toSteps a b c d xs ys _ (E0.out.fs HA.out.1) (E0.out.fs HA.out.2) l1 l2).mono ?_
        rintro _ w9 ⟨g1, h1, rfl, _, _, _, hR, hR2, hB⟩
        have E1 := Lib.hid (E0.out.steps hR hR2 hB)
        clear hR hR2 hB
        clear E0 k0 k1 k2 j0 j1 j2
        obtain ⟨k0, k1, k2⟩ := E1.out.nth 1 rfl
        obtain ⟨j0, j1, j2⟩ := E1.out.nth 0 rfl
        have E2 := Lib.hid (E1.out.new (.slice (some ⟨g1, 0, none⟩) xs.length xs.length) (.slice (some ⟨h1, 0, none⟩) ys.length ys.length) 27)
        clear E1
        go_wp2_with fail
        refine (laws_toSteps a' b' c' d' xs' ys' _ (E2.out.fs HB.out.1) (E2.out.fs HB.out.2) l3 l4).mono ?_
        rintro _ w10 ⟨g2, h2, rfl, _, _, _, hR, hR2, hB⟩
        have E3 := Lib.hid (E2.out.steps hR hR2 hB)
        clear hR hR2 hB
        clear E2 k0 k1 k2 j0 j1 j2
        obtain ⟨k0, k1, k2⟩ := E3.out.nth 0 rfl
        have E4 := Lib.hid (E3.out.new (.slice (some ⟨g2, 0, none⟩) xs'.length xs'.length) (.slice (some ⟨h2, 0, none⟩) ys'.length ys'.length) 27)
        clear E3
        go_wp2_with fail
        refine (impl_SameSteps _ _ _ _ _ _ _ _ xs ys xs' ys' _ (E4.out.row g1 (by simp)).Fs (E4.out.row h1 (by simp)).Fs (E4.out.row g2 (by simp)).Fs (E4.out.row h2 (by simp)).Fs l1 l2 l3 l4 WA.out.1 WA.out.2 WB.out.1 WB.out.2).mono ?_
        rw [HV.out]
        rintro _ w11 ⟨rfl, hB⟩
        have E5 := Lib.hid (E4.out.below hB)
        clear hB E4 k0 k1 k2
        have hvv : (v != v) = false := by cases v <;> rfl
        obtain ⟨e0, e1, e2⟩ := E5.out.nth 3 rfl
        obtain ⟨f0, f1, f2⟩ := E5.out.nth 1 rfl
        have FA := Lib.hid E5.out.drew
        clear E5
        go_wp2_with fail
        go_region_held3 (fun w' => w'.cell? ⟨w.heap.size, 0, none⟩ = some (.slice a xs.length c) ∧ w'.cell? ⟨w.heap.size, 1, none⟩ = some (.slice b ys.length d) ∧ w'.cell? ⟨w9.heap.size, 0, none⟩ = some (.slice (some ⟨g1, 0, none⟩) xs.length xs.length) ∧ w'.cell? ⟨w9.heap.size, 1, none⟩ = some (.slice (some ⟨h1, 0, none⟩) ys.length ys.length)) (first | exact (two_blocks (by assumption) (by assumption)) | go_keep)
          (first
            | (go_at_call 10; refine (laws_toSteps a b c d xs ys _ (FA.out.fs HA.out.1) (FA.out.fs HA.out.2) l1 l2).mono ?_; rintro _ w6 ⟨g6, h6, rfl, _, _, _, hR6, hR7, hB6⟩; have FB := Lib.hid (FA.out.steps hR6 hR7 hB6); clear FA hR6 hR7 hB6; have q0 := FB.out.nth 3 rfl; have q1 := FB.out.nth 1 rfl)
            | (go_at_call 12; refine (laws_eqSteps _ _ _ _ _ _ _ _ xs ys xs ys _ (FB.out.row g1 (by simp)).Fs (FB.out.row h1 (by simp)).Fs (FB.out.row g6 (by simp)).Fs (FB.out.row h6 (by simp)).Fs l1 l2 rfl rfl WA.out.1 WA.out.2 (fun _ _ => rfl) (fun _ _ => rfl)).mono ?_; rintro _ w7 ⟨rfl, hB7⟩; have E6 := Lib.hid (FB.out.below hB7); clear FB hB7 q0 q1; have q0 := E6.out.nth 3 rfl; have q1 := E6.out.nth 1 rfl))
        clear e0 e1 e2 f0 f1 f2 q0 q1
        obtain ⟨e0, e1, e2⟩ := E6.out.nth 2 rfl
        obtain ⟨f0, f1, f2⟩ := E6.out.nth 0 rfl
        have FA := Lib.hid E6.out.drew
        clear E6
        go_wp2_with fail
        go_region_held3 (fun w' => w'.cell? ⟨w.heap.size + 1, 0, none⟩ = some (.slice a' xs'.length c') ∧ w'.cell? ⟨w.heap.size + 1, 1, none⟩ = some (.slice b' ys'.length d') ∧ w'.cell? ⟨w10.heap.size, 0, none⟩ = some (.slice (some ⟨g2, 0, none⟩) xs'.length xs'.length) ∧ w'.cell? ⟨w10.heap.size, 1, none⟩ = some (.slice (some ⟨h2, 0, none⟩) ys'.length ys'.length)) (first | exact (two_blocks (by assumption) (by assumption)) | go_keep)
          (first
            | (go_at_call 10; refine (laws_toSteps a' b' c' d' xs' ys' _ (FA.out.fs HB.out.1) (FA.out.fs HB.out.2) l3 l4).mono ?_; rintro _ w6 ⟨g6, h6, rfl, _, _, _, hR6, hR7, hB6⟩; have FB := Lib.hid (FA.out.steps hR6 hR7 hB6); clear FA hR6 hR7 hB6; have q0 := FB.out.nth 2 rfl; have q1 := FB.out.nth 0 rfl)
            | (go_at_call 12; refine (laws_eqSteps _ _ _ _ _ _ _ _ xs' ys' xs' ys' _ (FB.out.row g2 (by simp)).Fs (FB.out.row h2 (by simp)).Fs (FB.out.row g6 (by simp)).Fs (FB.out.row h6 (by simp)).Fs l3 l4 rfl rfl WB.out.1 WB.out.2 (fun _ _ => rfl) (fun _ _ => rfl)).mono ?_; rintro _ w7 ⟨rfl, hB7⟩; have E7 := Lib.hid (FB.out.below hB7); clear FB hB7 q0 q1; have q0 := E7.out.nth 2 rfl; have q1 := E7.out.nth 0 rfl))
        go_wp2
        go_ret
        exact ⟨rfl, E7.out.base⟩
    · go_enter Try.func4, Try.ntmps4
      go_wp2_with fail
      refine (laws_szSteps_small a b xs.length ys.length c d 1048576 hl (by omega) _).mono ?_
      rintro _ w1 ⟨rfl, hB1⟩
      have K1 := Lib.hid ((two_new w (.slice a xs.length c) (.slice b ys.length d) (.slice a' xs'.length c') (.slice b' ys'.length d') _ _).below hB1)
      clear hB1
      obtain ⟨j0, j1, j2⟩ := K1.out.nth 0 rfl
      go_wp2_with fail
      refine (laws_szSteps_great a' b' xs'.length ys'.length c' d' (1048576 - xs.length - ys.length) (by omega) hm3 hm4 (by omega) _).mono ?_
      rintro _ w2 ⟨rfl, hB1⟩
      have K2 := Lib.hid (K1.out.below hB1)
      clear hB1
      go_wp2
      go_ret
      exact ⟨rfl, K2.out.base⟩
  · go_enter Try.func4, Try.ntmps4
    go_wp2_with fail
    refine (laws_szSteps_great a b xs.length ys.length c d 1048576 (by omega) hm hm2 (by omega) _).mono ?_
    rintro _ w1 ⟨rfl, hB1⟩
    have K1 := Lib.hid ((two_new w (.slice a xs.length c) (.slice b ys.length d) (.slice a' xs'.length c') (.slice b' ys'.length d') _ _).below hB1)
    clear hB1
    go_wp2
    go_ret
    exact ⟨rfl, K1.out.base⟩
end Go.Proofs.Ytkdojogjalkddaa
