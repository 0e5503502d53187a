/- The statement on TurnSteps, walked. -/
import Derived.Test.YtkdojogjalkddaaTy
namespace Go.Proofs.Ytkdojogjalkddaa
set_option maxRecDepth 100000
set_option linter.unusedVariables false
open Go.RowKit

/-- the copied argument is marked; the first result and the reference's stay -/
theorem mark_first {w w1 w2 : World} {xs ys es hs : List Nat} {t0 t1 u0 u1 v0 v1 r0 r1 : Value} {n2 n3 n4 n5 : Nat} {vx vy vw vz vg vh : Value}
    (h : Sl w [(n5, v0, v1), (n4, u0, u1), (n3, t0, t1), (w.heap.size, r0, r1)] [(n4 + 1, n5, vg, es, vh, hs), (n3 + 1, n4, vx, xs, vy, ys), (n2, n3, vw, es, vz, hs)] w1)
    (hc : Ch (n3 + 1) n4 w1 w2) (z1 : w.heap.size ≤ n2) (z2 : n2 ≤ n3) (z3 : n3 + 1 ≤ n4) (z4 : n4 + 1 ≤ n5) :
    Sl w [(n5, v0, v1), (n4, u0, u1), (n3, t0, t1), (w.heap.size, r0, r1)] [(n4 + 1, n5, vg, es, vh, hs), (n2, n3, vw, es, vz, hs)] w2 := by
  refine (h.keep (sg' := [(n4 + 1, n5, vg, es, vh, hs), (n2, n3, vw, es, vz, hs)]) ?_).mark hc (by omega) ?_ ?_
  · intro s q
    simp only [List.mem_cons, List.not_mem_nil, or_false] at q ⊢
    rcases q with q | q
    · exact .inl q
    · exact .inr (.inr q)
  · intro t q
    simp only [List.mem_cons, List.not_mem_nil, or_false] at q
    rcases q with rfl | rfl | rfl | rfl
    · right; show n4 ≤ n5; omega
    · right; show n4 ≤ n4; omega
    · left; show n3 < n3 + 1; omega
    · left; show w.heap.size < n3 + 1; omega
  · intro t q
    simp only [List.mem_cons, List.not_mem_nil, or_false] at q
    rcases q with rfl | rfl
    · right; show n4 ≤ n4 + 1; omega
    · left; show n3 ≤ n3 + 1; omega
theorem mark_second {w w1 w2 : World} {es hs fs ks : List Nat} {t0 t1 u0 u1 v0 v1 r0 r1 : Value} {n2 n3 n4 n5 : Nat} {vw vz vg vh : Value}
    (h : Sl w [(n5, v0, v1), (n4, u0, u1), (n3, t0, t1), (w.heap.size, r0, r1)] [(n4 + 1, n5, vg, es, vh, hs), (n2, n3, vw, es, vz, hs)] w1)
    (hc : Ch (n4 + 1) n5 w1 w2) (hg : Sg w2 (n4 + 1) n5 vg fs vh ks) (z1 : w.heap.size ≤ n2) (z2 : n2 ≤ n3) (z3 : n3 + 1 ≤ n4) (z4 : n4 + 1 ≤ n5) :
    Sl w [(n5, v0, v1), (n4, u0, u1), (n3, t0, t1), (w.heap.size, r0, r1)] [(n4 + 1, n5, vg, fs, vh, ks), (n2, n3, vw, es, vz, hs)] w2 := by
  refine Sl.addSeg ((h.keep (sg' := [(n2, n3, vw, es, vz, hs)]) ?_).mark hc (by omega) ?_ ?_) hg
  · intro s q
    exact List.mem_cons_of_mem _ q
  · intro t q
    simp only [List.mem_cons, List.not_mem_nil, or_false] at q
    rcases q with rfl | rfl | rfl | rfl
    · right; show n5 ≤ n5; omega
    · left; show n4 < n4 + 1; omega
    · left; show n3 < n4 + 1; omega
    · left; show w.heap.size < n4 + 1; omega
  · intro t q
    simp only [List.mem_cons, List.not_mem_nil, or_false] at q
    subst q
    left; show n3 ≤ n4 + 1; omega

set_option maxHeartbeats 4000000 in
theorem law_TurnSteps (a b : Option Addr) (c d : Nat) (xs ys : List Nat) (w : World) (hs : Fs w a xs) (ht : Fs w b ys) (hw : ∀ j, j < xs.length → xs.getD j 0 < 4294967296) (hw2 : ∀ j, j < ys.length → ys.getD j 0 < 4294967296) (hm : xs.length ≤ maxLen) (hm2 : ys.length ≤ maxLen) :
    Calls Try.prog 6 #[.agg #[.slice a xs.length c, .slice b ys.length d]] w (RetVB (.bool true) w) := by
  have HA := Lib.hid (And.intro hs ht)
  have WA := Lib.hid (And.intro hw hw2)
  clear hs ht hw hw2
  unfold maxLen at hm hm2
  by_cases hl : xs.length + ys.length ≤ 1048576
  · have l1 : xs.length ≤ 1048576 := by omega
    have l2 : ys.length ≤ 1048576 := by omega
    obtain ⟨es, hs', v, n1, n2, ew, CS, CI⟩ := turns xs ys l1 l2 WA.out.1 WA.out.2
    have EW := Lib.hid ew
    have CC := Lib.hid (And.intro CS CI)
    have m1 : es.length ≤ 1048576 := by omega
    have m2 : hs'.length ≤ 1048576 := by omega
    have n3 : es.length ≤ 65536 := by omega
    have n4 : hs'.length ≤ 65536 := by omega
    clear ew CS CI
    have hvv : (v != v) = false := by cases v <;> rfl
    go_enter Try.func6, Try.ntmps6
    go_wp2_with fail
    refine (laws_szSteps_small a b xs.length ys.length c d 1048576 hl (by omega) _).mono ?_
    rintro _ w1 ⟨rfl, hB1⟩
    have S1 := Lib.hid (((Sl.start w).new (.slice a xs.length c) (.slice b ys.length d) _).later hB1)
    clear hB1
    obtain ⟨k0, k1, k2⟩ := S1.out.nth 0 rfl
    go_wp2_with fail
    refine (laws_toSteps a b c d xs ys _ (S1.out.fs HA.out.1) (S1.out.fs HA.out.2) l1 l2).mono ?_
    rintro _ w2 ⟨g1, h1, rfl, _, _, _, hR, hR2, hB⟩
    have S2 := Lib.hid (S1.out.later hB)
    have R2 := Lib.hid (And.intro hR.Fs hR2.Fs)
    clear hR hR2 hB S1
    clear k0 k1 k2
    go_wp2_with fail
    refine (CC.out.1 _ _ _ _ _ R2.out.1 R2.out.2).mono ?_
    intro e w3 hr
    obtain ⟨aw, cw, bw, dw, rfl, hsg, hB⟩ := hr.open
    have S3 := Lib.hid ((S2.out.later hB).addSeg hsg)
    have z2 := Lib.hid (And.intro S2.out.base.size hB.size)
    clear hr hsg hB R2 S2
    obtain ⟨k0, k1, k2⟩ := S3.out.nth 0 rfl
    have S4 := Lib.hid (S3.out.new (.slice aw es.length cw) (.slice bw hs'.length dw) 27)
    clear S3
    go_wp2_with fail
    refine (laws_toSteps a b c d xs ys _ (S4.out.fs HA.out.1) (S4.out.fs HA.out.2) l1 l2).mono ?_
    rintro _ w4 ⟨g2, h2, rfl, p1, p2, p3, hR, hR2, hB⟩
    have e4 := hB.size
    rw [World.size_alloc] at p1 p2 e4
    have S5 := Lib.hid ((S4.out.later hB).addSeg (Sg.rows p1 p2 p3 hR hR2 (by omega) (by omega)))
    have z3 := Lib.hid e4
    clear e4 p1 p2 p3 hR hR2 hB S4
    clear k0 k1 k2
    have S6 := Lib.hid (S5.out.new (.slice (some ⟨g2, 0, none⟩) xs.length xs.length) (.slice (some ⟨h2, 0, none⟩) ys.length ys.length) 27)
    clear S5
    go_wp2_with fail
    refine (CC.out.2 _ _ _ _ _ (S6.out.seg 0 rfl).fsE (S6.out.seg 0 rfl).fsH).mono ?_
    intro e w5 hr
    obtain ⟨ag, cg, bg, dg, rfl, hsg, hB⟩ := hr.open
    have e5 := hB.size
    rw [World.size_alloc] at hsg e5
    have S7 := Lib.hid ((S6.out.later hB).addSeg hsg)
    have z4 := Lib.hid e5
    clear e5 hr hsg hB S6
    obtain ⟨k0, k1, k2⟩ := S7.out.nth 1 rfl
    have S8 := Lib.hid (S7.out.new (.slice ag es.length cg) (.slice bg hs'.length dg) 27)
    clear S7
    go_wp2_with fail
    refine (laws_eqSteps _ _ _ _ _ _ _ _ es hs' es hs' _ (S8.out.seg 0 rfl).fsE (S8.out.seg 0 rfl).fsH (S8.out.seg 2 rfl).fsE (S8.out.seg 2 rfl).fsH m1 m2 rfl rfl EW.out.1 EW.out.2 (fun _ _ => rfl) (fun _ _ => rfl)).mono ?_
    rintro _ w6 ⟨rfl, hB⟩
    have S9 := Lib.hid (S8.out.later hB)
    clear hB S8
    clear k0 k1 k2
    obtain ⟨e0, e1, e2⟩ := S9.out.nth 3 rfl
    obtain ⟨f0, f1, f2⟩ := S9.out.nth 1 rfl
    have FA := Lib.hid S9.out.drew
    clear S9
    go_wp2_with fail
    go_region_held3 (fun w' => w'.cell? ⟨w.heap.size, 0, none⟩ = some (.slice a xs.length c) ∧ w'.cell? ⟨w.heap.size, 1, none⟩ = some (.slice b ys.length d) ∧ w'.cell? ⟨w4.heap.size, 0, none⟩ = some (.slice (some ⟨g2, 0, none⟩) xs.length xs.length) ∧ w'.cell? ⟨w4.heap.size, 1, none⟩ = some (.slice (some ⟨h2, 0, none⟩) ys.length ys.length)) (first | exact (two_blocks (by assumption) (by assumption)) | go_keep)
      (first
        | (go_at_call 10; refine (laws_toSteps a b c d xs ys _ (FA.out.fs HA.out.1) (FA.out.fs HA.out.2) l1 l2).mono ?_; rintro _ w6 ⟨g6, h6, rfl, _, _, _, hR6, hR7, hB6⟩; have FB := Lib.hid (And.intro (FA.out.later hB6) (And.intro hR6 hR7)); clear FA hR6 hR7 hB6; have q0 := FB.out.1.nth 3 rfl; have q1 := FB.out.1.nth 1 rfl)
        | (go_at_call 12; refine (laws_eqSteps _ _ _ _ _ _ _ _ xs ys xs ys _ (FB.out.1.seg 1 rfl).fsE (FB.out.1.seg 1 rfl).fsH FB.out.2.1.Fs FB.out.2.2.Fs l1 l2 rfl rfl WA.out.1 WA.out.2 (fun _ _ => rfl) (fun _ _ => rfl)).mono ?_; rintro _ w7 ⟨rfl, hB7⟩; have T1 := Lib.hid (FB.out.1.later hB7); clear FB hB7 q0 q1; have q0 := T1.out.nth 3 rfl; have q1 := T1.out.nth 1 rfl))
    clear e0 e1 e2 f0 f1 f2 q0 q1
    obtain ⟨k0, k1, k2⟩ := T1.out.nth 1 rfl
    go_wp2_with fail
    refine (laws_markSteps _ _ _ _ _ _ 1 xs ys _ (T1.out.seg 1 rfl) (by omega) (by omega) l1 l2).mono ?_
    rintro _ w8 ⟨rfl, hsg, hc⟩
    have T2 := Lib.hid (mark_first T1.out hc z2.out.1 z2.out.2 z3.out z4.out)
    clear hsg hc T1
    clear k0 k1 k2
    obtain ⟨k0, k1, k2⟩ := T2.out.nth 0 rfl
    obtain ⟨j0, j1, j2⟩ := T2.out.nth 2 rfl
    go_wp2_with fail
    refine (laws_eqSteps _ _ _ _ _ _ _ _ es hs' es hs' _ (T2.out.seg 0 rfl).fsE (T2.out.seg 0 rfl).fsH (T2.out.seg 1 rfl).fsE (T2.out.seg 1 rfl).fsH m1 m2 rfl rfl EW.out.1 EW.out.2 (fun _ _ => rfl) (fun _ _ => rfl)).mono ?_
    rintro _ w9 ⟨rfl, hB⟩
    have T3 := Lib.hid (T2.out.later hB)
    clear hB T2
    clear k0 k1 k2
    clear j0 j1 j2
    obtain ⟨k0, k1, k2⟩ := T3.out.nth 0 rfl
    go_wp2_with fail
    refine (laws_markSteps _ _ _ _ _ _ 1 es hs' _ (T3.out.seg 0 rfl) (by omega) (by omega) m1 m2).mono ?_
    rintro _ w10 ⟨rfl, hsg, hc⟩
    have T4 := Lib.hid (mark_second T3.out hc hsg z2.out.1 z2.out.2 z3.out z4.out)
    clear hsg hc T3
    clear k0 k1 k2
    obtain ⟨k0, k1, k2⟩ := T4.out.nth 0 rfl
    go_wp2_with fail
    refine (laws_heldSteps _ _ _ _ 1 es.length hs'.length _ (T4.out.seg 0 rfl).fsE (T4.out.seg 0 rfl).fsH (by omega) (by omega) n3 n4).mono ?_
    rintro _ w11 ⟨rfl, hB⟩
    have T5 := Lib.hid (T4.out.later hB)
    clear hB T4
    clear k0 k1 k2
    obtain ⟨k0, k1, k2⟩ := T5.out.nth 3 rfl
    go_wp2_with fail
    refine (laws_toSteps a b c d xs ys _ (T5.out.fs HA.out.1) (T5.out.fs HA.out.2) l1 l2).mono ?_
    rintro _ w12 ⟨g3, h3, rfl, _, _, _, hR, hR2, hB⟩
    have T6 := Lib.hid (T5.out.later hB)
    have R2 := Lib.hid (And.intro hR.Fs hR2.Fs)
    clear hR hR2 hB T5
    clear k0 k1 k2
    go_wp2_with fail
    refine (CC.out.2 _ _ _ _ _ R2.out.1 R2.out.2).mono ?_
    intro e w13 hr
    obtain ⟨ah, ch, bh, dh, rfl, hsg, hB⟩ := hr.open
    have T7 := Lib.hid ((T6.out.later hB).addSeg hsg)
    clear hr hsg hB R2 T6
    obtain ⟨k0, k1, k2⟩ := T7.out.nth 2 rfl
    have T8 := Lib.hid (T7.out.new (.slice ah es.length ch) (.slice bh hs'.length dh) 27)
    clear T7
    go_wp2_with fail
    refine (laws_eqSteps _ _ _ _ _ _ _ _ es hs' es hs' _ (T8.out.seg 0 rfl).fsE (T8.out.seg 0 rfl).fsH (T8.out.seg 2 rfl).fsE (T8.out.seg 2 rfl).fsH m1 m2 rfl rfl EW.out.1 EW.out.2 (fun _ _ => rfl) (fun _ _ => rfl)).mono ?_
    rintro _ w14 ⟨rfl, hB⟩
    have T9 := Lib.hid (T8.out.later hB)
    clear hB T8
    clear k0 k1 k2
    obtain ⟨k0, k1, k2⟩ := T9.out.nth 1 rfl
    go_wp2_with fail
    refine (laws_heldSteps _ _ _ _ 1 es.length hs'.length _ (T9.out.seg 1 rfl).fsE (T9.out.seg 1 rfl).fsH (by omega) (by omega) n3 n4).mono ?_
    rintro _ w15 ⟨rfl, hB⟩
    go_wp2
    go_ret
    exact ⟨rfl, (T9.out.later hB).base⟩
  · have K0 := Lib.hid ((Kp.start w).new (.slice a xs.length c) (.slice b ys.length d) 24)
    go_enter Try.func6, Try.ntmps6
    go_wp2_with fail
    refine (laws_szSteps_great a b xs.length ys.length c d 1048576 (by omega) hm hm2 (by omega) _).mono ?_
    rintro _ w1 ⟨rfl, hB1⟩
    have K1 := Lib.hid (K0.out.below hB1)
    clear hB1 K0
    go_wp2
    go_ret
    exact ⟨rfl, K1.out.base⟩
end Go.Proofs.Ytkdojogjalkddaa
