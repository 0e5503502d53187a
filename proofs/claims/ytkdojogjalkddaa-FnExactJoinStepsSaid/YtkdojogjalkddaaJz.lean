/- The statement on JoinSteps, walked. -/
import Derived.Test.YtkdojogjalkddaaJw
import Derived.Test.YtkdojogjalkddaaTz
namespace Go.Proofs.Ytkdojogjalkddaa
set_option maxRecDepth 100000
set_option linter.unusedVariables false
open Go.RowKit

theorem sl_two (w : World) (u v u' v' : Value) : Sl w [(w.heap.size + 1, u', v'), (w.heap.size, u, v)] [] ((w.alloc (.cells #[u, v] 24)).alloc (.cells #[u', v'] 24)) := by
  have h := ((Sl.start w).new u v 24).new u' v' 24
  rwa [World.size_alloc] at h
theorem Fs.alloc {w : World} {a : Option Addr} {xs : List Nat} {X : Obj} (h : Fs w a xs) : Fs (w.alloc X) a xs := h.below (below1 w X)
theorem Fs.below2 {w w' : World} {a : Option Addr} {xs : List Nat} (hB : Below w.heap.size w w') (h : Fs w a xs) : Fs w' a xs := h.below hB
theorem Fs.below3 {w w' : World} {X : Obj} {a : Option Addr} {xs : List Nat} (hB : Below (w.alloc X).heap.size (w.alloc X) w') (h : Fs w a xs) : Fs w' a xs := h.alloc.below hB

set_option maxHeartbeats 8000000 in
theorem law_JoinSteps (a b a' b' : Option Addr) (c d c' d' g : Nat) (xs ys xs' ys' : List Nat) (w : World) (hs : Fs w a xs) (ht : Fs w b ys) (hs' : Fs w a' xs') (ht' : Fs w b' ys')
    (hw : ∀ j, j < xs.length → xs.getD j 0 < 4294967296) (hw2 : ∀ j, j < ys.length → ys.getD j 0 < 4294967296) (hw3 : ∀ j, j < xs'.length → xs'.getD j 0 < 4294967296) (hw4 : ∀ j, j < ys'.length → ys'.getD j 0 < 4294967296)
    (hm : xs.length ≤ maxLen) (hm2 : ys.length ≤ maxLen) (hm3 : xs'.length ≤ maxLen) (hm4 : ys'.length ≤ maxLen) :
    Calls Try.prog 7 #[.agg #[.slice a xs.length c, .slice b ys.length d], .agg #[.slice a' xs'.length c', .slice b' ys'.length d'], .float .f32 g] w (RetVB (.bool true) w) := by
  have HA := Lib.hid (And.intro hs ht)
  have HB := Lib.hid (And.intro hs' ht')
  have WA := Lib.hid (And.intro hw hw2)
  have WB := Lib.hid (And.intro hw3 hw4)
  clear hs ht hs' ht' hw hw2 hw3 hw4
  unfold maxLen at hm hm2 hm3 hm4
  by_cases hl : xs.length + ys.length ≤ 1048576
  · by_cases hl' : xs'.length + ys'.length ≤ 1048576 - xs.length - ys.length
    · have l1 : xs.length ≤ 1048576 := by omega
      have l2 : ys.length ≤ 1048576 := by omega
      have l3 : xs'.length ≤ 1048576 := by omega
      have l4 : ys'.length ≤ 1048576 := by omega
      obtain ⟨es, hs', v, n1, n2, ew, CS, CI⟩ := joins xs ys xs' ys' g l1 l2 l3 l4 WA.out.1 WA.out.2 WB.out.1 WB.out.2
      have EW := Lib.hid ew
      have CC := Lib.hid (And.intro CS CI)
      have m1 : es.length ≤ 1048576 := by omega
      have m2 : hs'.length ≤ 1048576 := by omega
      have n3 : es.length ≤ 65536 := by omega
      have n4 : hs'.length ≤ 65536 := by omega
      clear ew CS CI n1 n2
      have hvv : (v != v) = false := by cases v <;> rfl
      go_enter Try.func7, Try.ntmps7
      go_wp2_with fail
      refine (laws_szSteps_small a b xs.length ys.length c d 1048576 hl (by omega) _).mono ?_
      rintro _ w1 ⟨rfl, hB1⟩
      have S1 := Lib.hid ((sl_two w (.slice a xs.length c) (.slice b ys.length d) (.slice a' xs'.length c') (.slice b' ys'.length d')).later hB1)
      clear hB1
      obtain ⟨k0, k1, k2⟩ := S1.out.nth 1 rfl
      obtain ⟨j0, j1, j2⟩ := S1.out.nth 0 rfl
      go_wp2_with fail
      refine (laws_szSteps_small a' b' xs'.length ys'.length c' d' (1048576 - xs.length - ys.length) hl' (by omega) _).mono ?_
      rintro _ w2 ⟨rfl, hB1⟩
      have S2 := Lib.hid (S1.out.later hB1)
      clear hB1 S1
      clear k0 k1 k2
      clear j0 j1 j2
      go_upto_region 8 with fail
      go_cut [8, 9] (fun s8 s9 wx => ∃ (p n2 n3 cw dw : Nat) (aw bw : Option Addr), s8 = .pointer (some ⟨p, 0, none⟩) ∧ s9 = .bool v ∧ Hid (Sl w [(p, .slice aw es.length cw, .slice bw hs'.length dw), (w.heap.size + 1, .slice a' xs'.length c', .slice b' ys'.length d'), (w.heap.size, .slice a xs.length c, .slice b ys.length d)] [(n2, n3, .slice aw es.length cw, es, .slice bw hs'.length dw, hs')] wx) ∧ Hid (w.heap.size + 2 ≤ n2 ∧ n2 ≤ n3 ∧ n3 ≤ wx.heap.size ∧ p < wx.heap.size))
      case first =>
        have J0 := Lib.hid (Jy.start S2.out)
        obtain ⟨k0, k1, k2⟩ := S2.out.nth 1 rfl
        obtain ⟨j0, j1, j2⟩ := S2.out.nth 0 rfl
        have q0 := S2.out.nth 1 rfl
        have q1 := S2.out.nth 0 rfl
        go_region_held3 (fun w' => w'.cell? ⟨w.heap.size, 0, none⟩ = some (.slice a xs.length c) ∧ w'.cell? ⟨w.heap.size, 1, none⟩ = some (.slice b ys.length d) ∧ w'.cell? ⟨w.heap.size + 1, 0, none⟩ = some (.slice a' xs'.length c') ∧ w'.cell? ⟨w.heap.size + 1, 1, none⟩ = some (.slice b' ys'.length d')) (first | exact (two_blocks (by assumption) (by assumption)) | (refine ⟨?_, ?_, ?_, ?_⟩ <;> (rw [World.cell?_setCell_far, World.cell?_setCell_far] <;> first | assumption | (dsimp only; omega))) | go_keep)
          (first
            | (go_at_call_of 10 (Value.agg #[.slice a xs.length c, .slice b ys.length d]); have hJ := J0.out.drew; (with_reducible refine (laws_toSteps a b c d xs ys _ (hJ.fs HA.out.1) (hJ.fs HA.out.2) l1 l2).mono ?_); rintro _ v1 ⟨g1, h1, rfl, _, _, _, hR, hR2, hB⟩; have J1 := Lib.hid (hJ.later hB); have R1 := Lib.hid (And.intro hR.Fs hR2.Fs); clear hR hR2 hB hJ J0; have q0 := J1.out.nth 1 rfl; have q1 := J1.out.nth 0 rfl; obtain ⟨k0, k1, _⟩ := q0; obtain ⟨j0, j1, _⟩ := q1; have q0 := J1.out.nth 1 rfl; have q1 := J1.out.nth 0 rfl; dsimp only)
            | (go_at_call_of 10 (Value.agg #[.slice a xs.length c, .slice b ys.length d]); have hJ := (J0.out.box (N := w2.heap.size) rfl).drew; (with_reducible refine (laws_toSteps a b c d xs ys _ (hJ.fs HA.out.1) (hJ.fs HA.out.2) l1 l2).mono ?_); rintro _ v1 ⟨g1, h1, rfl, _, _, _, hR, hR2, hB⟩; have J1 := Lib.hid (hJ.later hB); have R1 := Lib.hid (And.intro hR.Fs hR2.Fs); clear hR hR2 hB hJ J0; have q0 := J1.out.nth 1 rfl; have q1 := J1.out.nth 0 rfl; obtain ⟨k0, k1, _⟩ := q0; obtain ⟨j0, j1, _⟩ := q1; have q0 := J1.out.nth 1 rfl; have q1 := J1.out.nth 0 rfl; dsimp only)
            | (go_at_call_of 10 (Value.agg #[.slice a' xs'.length c', .slice b' ys'.length d']); have hJ := J1.out; (with_reducible refine (laws_toSteps a' b' c' d' xs' ys' _ (hJ.fs HB.out.1) (hJ.fs HB.out.2) l3 l4).mono ?_); rintro _ v2 ⟨g2, h2, rfl, _, _, _, hR, hR2, hB⟩; have R2 := Lib.hid (And.intro (And.intro (Fs.below2 hB R1.out.1) (Fs.below2 hB R1.out.2)) (And.intro hR.Fs hR2.Fs)); have J2 := Lib.hid (hJ.later hB); clear hR hR2 hB hJ J1 R1 q0 q1; have q0 := J2.out.nth 1 rfl; have q1 := J2.out.nth 0 rfl; obtain ⟨k0, k1, _⟩ := q0; obtain ⟨j0, j1, _⟩ := q1; have q0 := J2.out.nth 1 rfl; have q1 := J2.out.nth 0 rfl; dsimp only)
            | (go_at_call_of 10 (Value.agg #[.slice a' xs'.length c', .slice b' ys'.length d']); have hJ := (J1.out.box (N := v1.heap.size) rfl); (with_reducible refine (laws_toSteps a' b' c' d' xs' ys' _ (hJ.fs HB.out.1) (hJ.fs HB.out.2) l3 l4).mono ?_); rintro _ v2 ⟨g2, h2, rfl, _, _, _, hR, hR2, hB⟩; have R2 := Lib.hid (And.intro (And.intro (Fs.below3 hB R1.out.1) (Fs.below3 hB R1.out.2)) (And.intro hR.Fs hR2.Fs)); have J2 := Lib.hid (hJ.later hB); clear hR hR2 hB hJ J1 R1 q0 q1; have q0 := J2.out.nth 1 rfl; have q1 := J2.out.nth 0 rfl; obtain ⟨k0, k1, _⟩ := q0; obtain ⟨j0, j1, _⟩ := q1; have q0 := J2.out.nth 1 rfl; have q1 := J2.out.nth 0 rfl; dsimp only)
            | (go_at_call 22; have hJ := (J2.out.box (N := v2.heap.size) rfl); have f1 := Fs.alloc (X := .cells #[.slice none 0 0, .slice none 0 0] 27) R2.out.1.1; have f2 := Fs.alloc (X := .cells #[.slice none 0 0, .slice none 0 0] 27) R2.out.1.2; have f3 := Fs.alloc (X := .cells #[.slice none 0 0, .slice none 0 0] 27) R2.out.2.1; have f4 := Fs.alloc (X := .cells #[.slice none 0 0, .slice none 0 0] 27) R2.out.2.2; (with_reducible refine (CC.out.1 _ _ _ _ _ _ _ _ _ f1 f2 f3 f4).mono ?_); intro e v3 hr; obtain ⟨aw, cw, bw, dw, n2, n3, rfl, hJ3, o1, o2, o3, o4, o5⟩ := hJ.called hr; have J3 := Lib.hid hJ3; have O3 := Lib.hid (And.intro o1 (And.intro o2 (And.intro o3 (And.intro o4 o5)))); clear hr hJ hJ3 o1 o2 o3 o4 o5 f1 f2 f3 f4 J2 R2 q0 q1; have q0 := J3.out.nth 1 rfl; have q1 := J3.out.nth 0 rfl; obtain ⟨k0, k1, _⟩ := q0; obtain ⟨j0, j1, _⟩ := q1; have q0 := J3.out.nth 1 rfl; have q1 := J3.out.nth 0 rfl; (first | (obtain ⟨b0, b00, z0, z1⟩ := J3.out.boxAt; have y0 := J3.out.far 1 rfl; have y1 := J3.out.far 0 rfl) | skip); dsimp only)
            | (go_at_call 22; have hJ := J2.out; have f1 := id R2.out.1.1; have f2 := id R2.out.1.2; have f3 := id R2.out.2.1; have f4 := id R2.out.2.2; (with_reducible refine (CC.out.1 _ _ _ _ _ _ _ _ _ f1 f2 f3 f4).mono ?_); intro e v3 hr; obtain ⟨aw, cw, bw, dw, n2, n3, rfl, hJ3, o1, o2, o3, o4, o5⟩ := hJ.called hr; have J3 := Lib.hid hJ3; have O3 := Lib.hid (And.intro o1 (And.intro o2 (And.intro o3 (And.intro o4 o5)))); clear hr hJ hJ3 o1 o2 o3 o4 o5 f1 f2 f3 f4 J2 R2 q0 q1; have q0 := J3.out.nth 1 rfl; have q1 := J3.out.nth 0 rfl; obtain ⟨k0, k1, _⟩ := q0; obtain ⟨j0, j1, _⟩ := q1; have q0 := J3.out.nth 1 rfl; have q1 := J3.out.nth 0 rfl; (first | (obtain ⟨b0, b00, z0, z1⟩ := J3.out.boxAt; have y0 := J3.out.far 1 rfl; have y1 := J3.out.far 0 rfl) | skip); dsimp only))
        all_goals
          go_wp2_with fail
          go_meet
          case rel =>
            obtain ⟨o1, o2, o3, _, o5⟩ := O3.out
            have o6 := o3 (w.heap.size + 1, .slice a' xs'.length c', .slice b' ys'.length d') (by simp)
            have o7 : w.heap.size + 1 < n2 := o6
            first
              | exact ⟨_, n2, n3, cw, dw, aw, bw, rfl, rfl, Lib.hid (J3.out.fin _ _), Lib.hid ⟨by omega, o1, by simpa using o2, Nat.lt_of_lt_of_le (o5 _ rfl) (Nat.le_trans o1 (by simpa using o2))⟩⟩
              | exact ⟨_, n2, n3, cw, dw, aw, bw, rfl, rfl, Lib.hid (J3.out.finNew rfl _ _), Lib.hid ⟨by omega, o1, Nat.le_trans o2 (by simp), by simp⟩⟩
      case rest =>
        clear S2
        obtain ⟨p, n2, n3', cw, dw, aw, bw, rfl, rfl, S3, O⟩ := hcut
        have ord := O.out
        clear O
        obtain ⟨k0, k1, k2⟩ := S3.out.nth 2 rfl
        go_wp2_with fail
        refine (laws_toSteps a b c d xs ys _ (S3.out.fs HA.out.1) (S3.out.fs HA.out.2) l1 l2).mono ?_
        rintro _ w4 ⟨g2, h2, rfl, p1, p2, p3, hR, hR2, hB⟩
        have e4 := hB.size
        have S5 := Lib.hid ((S3.out.later hB).addSeg (Sg.rows p1 p2 p3 hR hR2 (by omega) (by omega)))
        clear p1 p2 p3 hR hR2 hB S3
        clear k0 k1 k2
        have S6 := Lib.hid (S5.out.new (.slice (some ⟨g2, 0, none⟩) xs.length xs.length) (.slice (some ⟨h2, 0, none⟩) ys.length ys.length) 27)
        clear S5
        obtain ⟨k0, k1, k2⟩ := S6.out.nth 2 rfl
        go_wp2_with fail
        refine (laws_toSteps a' b' c' d' xs' ys' _ (S6.out.fs HB.out.1) (S6.out.fs HB.out.2) l3 l4).mono ?_
        rintro _ w5 ⟨g3, h3, rfl, p1, p2, p3, hR, hR2, hB⟩
        have e5 := hB.size
        rw [World.size_alloc] at p1 p2 e5
        have S7 := Lib.hid ((S6.out.later hB).addSeg (Sg.rows p1 p2 p3 hR hR2 (by omega) (by omega)))
        clear p1 p2 p3 hR hR2 hB S6
        clear k0 k1 k2
        obtain ⟨k0, k1, k2⟩ := S7.out.nth 0 rfl
        have S8 := Lib.hid (S7.out.new (.slice (some ⟨g3, 0, none⟩) xs'.length xs'.length) (.slice (some ⟨h3, 0, none⟩) ys'.length ys'.length) 27)
        clear S7
        go_wp2_with fail
        refine (CC.out.2 _ _ _ _ _ _ _ _ _ (Nat.le_refl _) (S8.out.seg 1 rfl).fsE (S8.out.seg 1 rfl).fsH (S8.out.seg 0 rfl).fsE (S8.out.seg 0 rfl).fsH).mono ?_
        intro e w6 hr
        obtain ⟨ag, cg, bg, dg, rfl, hsg, hB⟩ := hr.open
        have e6 := hB.size
        rw [World.size_alloc] at hsg e6
        have S9 := Lib.hid ((S8.out.later hB).addSeg hsg)
        clear hr hsg hB S8
        clear k0 k1 k2
        obtain ⟨k0, k1, k2⟩ := S9.out.nth 2 rfl
        have S10 := Lib.hid (S9.out.new (.slice ag es.length cg) (.slice bg hs'.length dg) 27)
        clear S9
        go_wp2_with fail
        refine (laws_eqSteps _ _ _ _ _ _ _ _ es hs' es hs' _ (S10.out.seg 0 rfl).fsE (S10.out.seg 0 rfl).fsH (S10.out.seg 3 rfl).fsE (S10.out.seg 3 rfl).fsH m1 m2 rfl rfl EW.out.1 EW.out.2 (fun _ _ => rfl) (fun _ _ => rfl)).mono ?_
        rintro _ w7 ⟨rfl, hB⟩
        have T0 := Lib.hid (S10.out.later hB)
        clear hB S10
        clear k0 k1 k2
        obtain ⟨e0, e1, e2⟩ := T0.out.nth 5 rfl
        obtain ⟨f0, f1, f2⟩ := T0.out.nth 2 rfl
        have FA := Lib.hid T0.out.drew
        clear T0
        go_wp2_with fail
        go_region_held3 (fun w' => w'.cell? ⟨w.heap.size, 0, none⟩ = some (.slice a xs.length c) ∧ w'.cell? ⟨w.heap.size, 1, none⟩ = some (.slice b ys.length d) ∧ w'.cell? ⟨w4.heap.size, 0, none⟩ = some (.slice (some ⟨g2, 0, none⟩) xs.length xs.length) ∧ w'.cell? ⟨w4.heap.size, 1, none⟩ = some (.slice (some ⟨h2, 0, none⟩) ys.length ys.length)) (first | exact (two_blocks (by assumption) (by assumption)) | go_keep)
          (first
            | (go_at_call 10; refine (laws_toSteps a b c d xs ys _ (FA.out.fs HA.out.1) (FA.out.fs HA.out.2) l1 l2).mono ?_; rintro _ we ⟨ge, he, rfl, _, _, _, hR6, hR7, hB6⟩; have FB := Lib.hid (And.intro (FA.out.later hB6) (And.intro hR6 hR7)); clear FA hR6 hR7 hB6; have q0 := FB.out.1.nth 5 rfl; have q1 := FB.out.1.nth 2 rfl)
            | (go_at_call 12; refine (laws_eqSteps _ _ _ _ _ _ _ _ xs ys xs ys _ (FB.out.1.seg 2 rfl).fsE (FB.out.1.seg 2 rfl).fsH FB.out.2.1.Fs FB.out.2.2.Fs l1 l2 rfl rfl WA.out.1 WA.out.2 (fun _ _ => rfl) (fun _ _ => rfl)).mono ?_; rintro _ wf ⟨rfl, hB7⟩; have T1 := Lib.hid (FB.out.1.later hB7); clear FB hB7 q0 q1; have q0 := T1.out.nth 5 rfl; have q1 := T1.out.nth 2 rfl))
        clear e0 e1 e2 f0 f1 f2 q0 q1
        obtain ⟨e0, e1, e2⟩ := T1.out.nth 4 rfl
        obtain ⟨f0, f1, f2⟩ := T1.out.nth 1 rfl
        have FA := Lib.hid T1.out.drew
        clear T1
        go_wp2_with fail
        go_region_held3 (fun w' => w'.cell? ⟨w.heap.size + 1, 0, none⟩ = some (.slice a' xs'.length c') ∧ w'.cell? ⟨w.heap.size + 1, 1, none⟩ = some (.slice b' ys'.length d') ∧ w'.cell? ⟨w5.heap.size, 0, none⟩ = some (.slice (some ⟨g3, 0, none⟩) xs'.length xs'.length) ∧ w'.cell? ⟨w5.heap.size, 1, none⟩ = some (.slice (some ⟨h3, 0, none⟩) ys'.length ys'.length)) (first | exact (two_blocks (by assumption) (by assumption)) | go_keep)
          (first
            | (go_at_call 10; refine (laws_toSteps a' b' c' d' xs' ys' _ (FA.out.fs HB.out.1) (FA.out.fs HB.out.2) l3 l4).mono ?_; rintro _ we ⟨ge, he, rfl, _, _, _, hR6, hR7, hB6⟩; have FB := Lib.hid (And.intro (FA.out.later hB6) (And.intro hR6 hR7)); clear FA hR6 hR7 hB6; have q0 := FB.out.1.nth 4 rfl; have q1 := FB.out.1.nth 1 rfl)
            | (go_at_call 12; refine (laws_eqSteps _ _ _ _ _ _ _ _ xs' ys' xs' ys' _ (FB.out.1.seg 1 rfl).fsE (FB.out.1.seg 1 rfl).fsH FB.out.2.1.Fs FB.out.2.2.Fs l3 l4 rfl rfl WB.out.1 WB.out.2 (fun _ _ => rfl) (fun _ _ => rfl)).mono ?_; rintro _ wf ⟨rfl, hB7⟩; have T2 := Lib.hid (FB.out.1.later hB7); clear FB hB7 q0 q1; have q0 := T2.out.nth 4 rfl; have q1 := T2.out.nth 1 rfl))
        clear e0 e1 e2 f0 f1 f2 q0 q1
        obtain ⟨k0, k1, k2⟩ := T2.out.nth 2 rfl
        go_wp2_with fail
        refine (laws_markSteps _ _ _ _ _ _ 1 xs ys _ (T2.out.seg 2 rfl) (by omega) (by omega) l1 l2).mono ?_
        rintro _ w8 ⟨rfl, hsg, hc⟩
        have T3 := Lib.hid (T2.out.marked (sg' := [(w5.heap.size + 1, w6.heap.size, .slice ag es.length cg, es, .slice bg hs'.length dg, hs'), (w4.heap.size + 1, w5.heap.size, .slice (some ⟨g3, 0, none⟩) xs'.length xs'.length, xs', .slice (some ⟨h3, 0, none⟩) ys'.length ys'.length, ys'), (n2, n3', .slice aw es.length cw, es, .slice bw hs'.length dw, hs')]) hc (by intro s q; simp only [List.mem_cons, List.not_mem_nil, or_false] at q ⊢; rcases q with q | q | q; exact .inl q; exact .inr (.inl q); exact .inr (.inr (.inr q))) (by omega) (by intro t q; simp only [List.mem_cons, List.not_mem_nil, or_false] at q; rcases q with rfl | rfl | rfl | rfl | rfl | rfl <;> (dsimp only; omega)) (by intro t q; simp only [List.mem_cons, List.not_mem_nil, or_false] at q; (first | (rcases q with rfl | rfl | rfl <;> (dsimp only; omega)) | (rcases q with rfl | rfl <;> (dsimp only; omega)) | (subst q; dsimp only; omega))))
        clear hsg hc T2
        clear k0 k1 k2
        obtain ⟨k0, k1, k2⟩ := T3.out.nth 1 rfl
        go_wp2_with fail
        refine (laws_markSteps _ _ _ _ _ _ (1 + xs.length + ys.length) xs' ys' _ (T3.out.seg 1 rfl) (by omega) (by omega) l3 l4).mono ?_
        rintro _ w9 ⟨rfl, hsg, hc⟩
        have T4 := Lib.hid (T3.out.marked (sg' := [(w5.heap.size + 1, w6.heap.size, .slice ag es.length cg, es, .slice bg hs'.length dg, hs'), (n2, n3', .slice aw es.length cw, es, .slice bw hs'.length dw, hs')]) hc (by intro s q; simp only [List.mem_cons, List.not_mem_nil, or_false] at q ⊢; rcases q with q | q; exact .inl q; exact .inr (.inr q)) (by omega) (by intro t q; simp only [List.mem_cons, List.not_mem_nil, or_false] at q; rcases q with rfl | rfl | rfl | rfl | rfl | rfl <;> (dsimp only; omega)) (by intro t q; simp only [List.mem_cons, List.not_mem_nil, or_false] at q; (first | (rcases q with rfl | rfl | rfl <;> (dsimp only; omega)) | (rcases q with rfl | rfl <;> (dsimp only; omega)) | (subst q; dsimp only; omega))))
        clear hsg hc T3
        clear k0 k1 k2
        obtain ⟨k0, k1, k2⟩ := T4.out.nth 0 rfl
        obtain ⟨j0, j1, j2⟩ := T4.out.nth 3 rfl
        have hk0 : ¬ ((1 : Int) + (xs.length : Int) + (ys.length : Int) + (xs'.length : Int) + (ys'.length : Int) < 0) := by omega
        go_wp2_with fail
        refine (laws_eqSteps _ _ _ _ _ _ _ _ es hs' es hs' _ (T4.out.seg 0 rfl).fsE (T4.out.seg 0 rfl).fsH (T4.out.seg 1 rfl).fsE (T4.out.seg 1 rfl).fsH m1 m2 rfl rfl EW.out.1 EW.out.2 (fun _ _ => rfl) (fun _ _ => rfl)).mono ?_
        rintro _ w10 ⟨rfl, hB⟩
        have T5 := Lib.hid (T4.out.later hB)
        clear hB T4
        clear k0 k1 k2
        clear j0 j1 j2
        obtain ⟨k0, k1, k2⟩ := T5.out.nth 0 rfl
        go_wp2_with fail
        refine (laws_markSteps _ _ _ _ _ _ 1 es hs' _ (T5.out.seg 0 rfl) (by omega) (by omega) m1 m2).mono ?_
        rintro _ w11 ⟨rfl, hsg, hc⟩
        have T6 := Lib.hid ((T5.out.marked (sg' := [(n2, n3', .slice aw es.length cw, es, .slice bw hs'.length dw, hs')]) hc (by intro s q; exact List.mem_cons_of_mem _ q) (by omega) (by intro t q; simp only [List.mem_cons, List.not_mem_nil, or_false] at q; rcases q with rfl | rfl | rfl | rfl | rfl | rfl <;> (dsimp only; omega)) (by intro t q; simp only [List.mem_cons, List.not_mem_nil, or_false] at q; (first | (rcases q with rfl | rfl | rfl <;> (dsimp only; omega)) | (rcases q with rfl | rfl <;> (dsimp only; omega)) | (subst q; dsimp only; omega)))).addSeg hsg)
        clear hsg hc T5
        clear k0 k1 k2
        obtain ⟨k0, k1, k2⟩ := T6.out.nth 0 rfl
        go_wp2_with fail
        refine (laws_heldSteps _ _ _ _ 1 es.length hs'.length _ (T6.out.seg 0 rfl).fsE (T6.out.seg 0 rfl).fsH (by omega) (by omega) n3 n4).mono ?_
        rintro _ w12 ⟨rfl, hB⟩
        have T7 := Lib.hid (T6.out.later hB)
        clear hB T6
        clear k0 k1 k2
        go_upto_region 31 with fail
        go_cut [17, 18] (fun s17 s18 wx => ∃ (p' m2' m3' ch dh : Nat) (ah bh : Option Addr), s17 = .pointer (some ⟨p', 0, none⟩) ∧ s18 = .bool v ∧ Hid (Sl w [(p', .slice ah es.length ch, .slice bh hs'.length dh), (w6.heap.size, .slice ag es.length cg, .slice bg hs'.length dg), (w5.heap.size, .slice (some ⟨g3, 0, none⟩) xs'.length xs'.length, .slice (some ⟨h3, 0, none⟩) ys'.length ys'.length), (w4.heap.size, .slice (some ⟨g2, 0, none⟩) xs.length xs.length, .slice (some ⟨h2, 0, none⟩) ys.length ys.length), (p, .slice aw es.length cw, .slice bw hs'.length dw), (w.heap.size + 1, .slice a' xs'.length c', .slice b' ys'.length d'), (w.heap.size, .slice a xs.length c, .slice b ys.length d)] [(m2', m3', .slice ah es.length ch, es, .slice bh hs'.length dh, hs'), (w5.heap.size + 1, w6.heap.size, .slice ag es.length cg, marks 1 es.length, .slice bg hs'.length dg, marks (1 + es.length) hs'.length), (n2, n3', .slice aw es.length cw, es, .slice bw hs'.length dw, hs')] wx))
        case first =>
          have J0 := Lib.hid (Jy.start T7.out)
          obtain ⟨k0, k1, k2⟩ := T7.out.nth 5 rfl
          obtain ⟨j0, j1, j2⟩ := T7.out.nth 4 rfl
          have q0 := T7.out.nth 5 rfl
          have q1 := T7.out.nth 4 rfl
          go_region_held3 (fun w' => w'.cell? ⟨w.heap.size, 0, none⟩ = some (.slice a xs.length c) ∧ w'.cell? ⟨w.heap.size, 1, none⟩ = some (.slice b ys.length d) ∧ w'.cell? ⟨w.heap.size + 1, 0, none⟩ = some (.slice a' xs'.length c') ∧ w'.cell? ⟨w.heap.size + 1, 1, none⟩ = some (.slice b' ys'.length d')) (first | exact (two_blocks (by assumption) (by assumption)) | (refine ⟨?_, ?_, ?_, ?_⟩ <;> (rw [World.cell?_setCell_far, World.cell?_setCell_far] <;> first | assumption | (dsimp only; omega))) | go_keep)
            (first
              | (go_at_call_of 10 (Value.agg #[.slice a xs.length c, .slice b ys.length d]); have hJ := J0.out.drew; (with_reducible refine (laws_toSteps a b c d xs ys _ (hJ.fs HA.out.1) (hJ.fs HA.out.2) l1 l2).mono ?_); rintro _ v1 ⟨g1, h1, rfl, _, _, _, hR, hR2, hB⟩; have J1 := Lib.hid (hJ.later hB); have R1 := Lib.hid (And.intro hR.Fs hR2.Fs); clear hR hR2 hB hJ J0; have q0 := J1.out.nth 5 rfl; have q1 := J1.out.nth 4 rfl; obtain ⟨k0, k1, _⟩ := q0; obtain ⟨j0, j1, _⟩ := q1; have q0 := J1.out.nth 5 rfl; have q1 := J1.out.nth 4 rfl; dsimp only)
              | (go_at_call_of 10 (Value.agg #[.slice a xs.length c, .slice b ys.length d]); have hJ := (J0.out.box (N := w12.heap.size) rfl).drew; (with_reducible refine (laws_toSteps a b c d xs ys _ (hJ.fs HA.out.1) (hJ.fs HA.out.2) l1 l2).mono ?_); rintro _ v1 ⟨g1, h1, rfl, _, _, _, hR, hR2, hB⟩; have J1 := Lib.hid (hJ.later hB); have R1 := Lib.hid (And.intro hR.Fs hR2.Fs); clear hR hR2 hB hJ J0; have q0 := J1.out.nth 5 rfl; have q1 := J1.out.nth 4 rfl; obtain ⟨k0, k1, _⟩ := q0; obtain ⟨j0, j1, _⟩ := q1; have q0 := J1.out.nth 5 rfl; have q1 := J1.out.nth 4 rfl; dsimp only)
              | (go_at_call_of 10 (Value.agg #[.slice a' xs'.length c', .slice b' ys'.length d']); have hJ := J1.out; (with_reducible refine (laws_toSteps a' b' c' d' xs' ys' _ (hJ.fs HB.out.1) (hJ.fs HB.out.2) l3 l4).mono ?_); rintro _ v2 ⟨g2, h2, rfl, _, _, _, hR, hR2, hB⟩; have R2 := Lib.hid (And.intro (And.intro (Fs.below2 hB R1.out.1) (Fs.below2 hB R1.out.2)) (And.intro hR.Fs hR2.Fs)); have J2 := Lib.hid (hJ.later hB); clear hR hR2 hB hJ J1 R1 q0 q1; have q0 := J2.out.nth 5 rfl; have q1 := J2.out.nth 4 rfl; obtain ⟨k0, k1, _⟩ := q0; obtain ⟨j0, j1, _⟩ := q1; have q0 := J2.out.nth 5 rfl; have q1 := J2.out.nth 4 rfl; dsimp only)
              | (go_at_call_of 10 (Value.agg #[.slice a' xs'.length c', .slice b' ys'.length d']); have hJ := (J1.out.box (N := v1.heap.size) rfl); (with_reducible refine (laws_toSteps a' b' c' d' xs' ys' _ (hJ.fs HB.out.1) (hJ.fs HB.out.2) l3 l4).mono ?_); rintro _ v2 ⟨g2, h2, rfl, _, _, _, hR, hR2, hB⟩; have R2 := Lib.hid (And.intro (And.intro (Fs.below3 hB R1.out.1) (Fs.below3 hB R1.out.2)) (And.intro hR.Fs hR2.Fs)); have J2 := Lib.hid (hJ.later hB); clear hR hR2 hB hJ J1 R1 q0 q1; have q0 := J2.out.nth 5 rfl; have q1 := J2.out.nth 4 rfl; obtain ⟨k0, k1, _⟩ := q0; obtain ⟨j0, j1, _⟩ := q1; have q0 := J2.out.nth 5 rfl; have q1 := J2.out.nth 4 rfl; dsimp only)
              | (go_at_call 23; have hJ := (J2.out.box (N := v2.heap.size) rfl); have f1 := Fs.alloc (X := .cells #[.slice none 0 0, .slice none 0 0] 27) R2.out.1.1; have f2 := Fs.alloc (X := .cells #[.slice none 0 0, .slice none 0 0] 27) R2.out.1.2; have f3 := Fs.alloc (X := .cells #[.slice none 0 0, .slice none 0 0] 27) R2.out.2.1; have f4 := Fs.alloc (X := .cells #[.slice none 0 0, .slice none 0 0] 27) R2.out.2.2; (with_reducible refine (CC.out.2 _ _ _ _ _ _ _ _ _ (Nat.le_refl _) f1 f2 f3 f4).mono ?_); intro e v3 hr; obtain ⟨av, cv, bv, dv, u2, u3, rfl, hJ3, o1, o2, o3, o4, o5⟩ := hJ.called hr; have J3 := Lib.hid hJ3; have O3 := Lib.hid (And.intro o1 (And.intro o2 (And.intro o3 (And.intro o4 o5)))); clear hr hJ hJ3 o1 o2 o3 o4 o5 f1 f2 f3 f4 J2 R2 q0 q1; have q0 := J3.out.nth 5 rfl; have q1 := J3.out.nth 4 rfl; obtain ⟨k0, k1, _⟩ := q0; obtain ⟨j0, j1, _⟩ := q1; have q0 := J3.out.nth 5 rfl; have q1 := J3.out.nth 4 rfl; (first | (obtain ⟨b0, b00, z0, z1⟩ := J3.out.boxAt; have y0 := J3.out.far 5 rfl; have y1 := J3.out.far 4 rfl) | skip); dsimp only)
              | (go_at_call 23; have hJ := J2.out; have f1 := id R2.out.1.1; have f2 := id R2.out.1.2; have f3 := id R2.out.2.1; have f4 := id R2.out.2.2; (with_reducible refine (CC.out.2 _ _ _ _ _ _ _ _ _ (Nat.le_refl _) f1 f2 f3 f4).mono ?_); intro e v3 hr; obtain ⟨av, cv, bv, dv, u2, u3, rfl, hJ3, o1, o2, o3, o4, o5⟩ := hJ.called hr; have J3 := Lib.hid hJ3; have O3 := Lib.hid (And.intro o1 (And.intro o2 (And.intro o3 (And.intro o4 o5)))); clear hr hJ hJ3 o1 o2 o3 o4 o5 f1 f2 f3 f4 J2 R2 q0 q1; have q0 := J3.out.nth 5 rfl; have q1 := J3.out.nth 4 rfl; obtain ⟨k0, k1, _⟩ := q0; obtain ⟨j0, j1, _⟩ := q1; have q0 := J3.out.nth 5 rfl; have q1 := J3.out.nth 4 rfl; (first | (obtain ⟨b0, b00, z0, z1⟩ := J3.out.boxAt; have y0 := J3.out.far 5 rfl; have y1 := J3.out.far 4 rfl) | skip); dsimp only))
          all_goals
            go_wp2_with fail
            go_meet
            case rel =>
              first
                | exact ⟨_, u2, u3, cv, dv, av, bv, rfl, rfl, Lib.hid (J3.out.fin _ _)⟩
                | exact ⟨_, u2, u3, cv, dv, av, bv, rfl, rfl, Lib.hid (J3.out.finNew rfl _ _)⟩
        case rest =>
          clear T7
          obtain ⟨p', m2', m3', ch, dh, ah, bh, rfl, rfl, T8⟩ := hcut
          obtain ⟨k0, k1, k2⟩ := T8.out.nth 0 rfl
          obtain ⟨j0, j1, j2⟩ := T8.out.nth 4 rfl
          go_wp2_with fail
          refine (laws_eqSteps _ _ _ _ _ _ _ _ es hs' es hs' _ (T8.out.seg 0 rfl).fsE (T8.out.seg 0 rfl).fsH (T8.out.seg 2 rfl).fsE (T8.out.seg 2 rfl).fsH m1 m2 rfl rfl EW.out.1 EW.out.2 (fun _ _ => rfl) (fun _ _ => rfl)).mono ?_
          rintro _ w14 ⟨rfl, hB⟩
          have T9 := Lib.hid (T8.out.later hB)
          clear hB T8
          clear k0 k1 k2
          clear j0 j1 j2
          obtain ⟨k0, k1, k2⟩ := T9.out.nth 1 rfl
          go_wp2_with fail
          refine (laws_heldSteps _ _ _ _ 1 es.length hs'.length _ (T9.out.seg 1 rfl).fsE (T9.out.seg 1 rfl).fsH (by omega) (by omega) n3 n4).mono ?_
          rintro _ w15 ⟨rfl, hB⟩
          go_wp2
          go_ret
          exact ⟨rfl, (T9.out.later hB).base⟩
    · have K0 := Lib.hid (two_new w (.slice a xs.length c) (.slice b ys.length d) (.slice a' xs'.length c') (.slice b' ys'.length d') 24 24)
      go_enter Try.func7, Try.ntmps7
      go_wp2_with fail
      refine (laws_szSteps_small a b xs.length ys.length c d 1048576 hl (by omega) _).mono ?_
      rintro _ w1 ⟨rfl, hB1⟩
      have K1 := Lib.hid (K0.out.below hB1)
      clear hB1 K0
      obtain ⟨j0, j1, j2⟩ := K1.out.nth 0 rfl
      go_wp2_with fail
      refine (laws_szSteps_great a' b' xs'.length ys'.length c' d' (1048576 - xs.length - ys.length) (by omega) hm3 hm4 (by omega) _).mono ?_
      rintro _ w2 ⟨rfl, hB1⟩
      have K2 := Lib.hid (K1.out.below hB1)
      clear hB1 K1 j0 j1 j2
      go_wp2
      go_ret
      exact ⟨rfl, K2.out.base⟩
  · have K0 := Lib.hid (two_new w (.slice a xs.length c) (.slice b ys.length d) (.slice a' xs'.length c') (.slice b' ys'.length d') 24 24)
    go_enter Try.func7, Try.ntmps7
    go_wp2_with fail
    refine (laws_szSteps_great a b xs.length ys.length c d 1048576 (by omega) hm hm2 (by omega) _).mono ?_
    rintro _ w1 ⟨rfl, hB1⟩
    have K1 := Lib.hid (K0.out.below hB1)
    clear hB1 K0
    go_wp2
    go_ret
    exact ⟨rfl, K1.out.base⟩
end Go.Proofs.Ytkdojogjalkddaa
