/- ValidSteps: both sides answer alike. -/
import Derived.Test.YtkdojogjalkddaaSs
namespace Go.Proofs.Ytkdojogjalkddaa
set_option maxRecDepth 100000
set_option linter.unusedVariables false
open Go.RowKit

/-- a struct of two slices in block p -/
def Bk (w : World) (p : Nat) (u v : Value) : Prop := w.cell? ⟨p, 0, none⟩ = some u ∧ w.cell? ⟨p, 1, none⟩ = some v ∧ p < w.heap.size
theorem Bk.below {w w' : World} {p : Nat} {u v : Value} (h : Bk w p u v) {B : Nat} (hb : Below B w w') (hp : p < B) : Bk w' p u v :=
  ⟨(hb.cell (p := ⟨p, 0, none⟩) hp).trans h.1, (hb.cell (p := ⟨p, 1, none⟩) hp).trans h.2.1, Nat.lt_of_lt_of_le h.2.2 hb.size⟩
theorem Bk.drewN {w : World} {p : Nat} {u v : Value} (h : Bk w p u v) (n : Nat) : Bk (w.drewN n) p u v := h
theorem undrew {w w' : World} (h : Below w.drew.heap.size w.drew w') : Below w.heap.size w w' := ⟨h.os, h.tape, h.output, h.size, h.block⟩
theorem two_blocks {w : World} {p q : Nat} {u v u' v' : Value} (h : Bk w p u v) (h' : Bk w q u' v') : w.cell? ⟨p, 0, none⟩ = some u ∧ w.cell? ⟨p, 1, none⟩ = some v ∧ w.cell? ⟨q, 0, none⟩ = some u' ∧ w.cell? ⟨q, 1, none⟩ = some v' := ⟨h.1, h.2.1, h'.1, h'.2.1⟩
theorem Bk.new (w : World) (u v : Value) (T : TypeId) : Bk (w.alloc (.cells #[u, v] T)) w.heap.size u v := ⟨by simp, by simp, by simp⟩

set_option maxHeartbeats 4000000 in
theorem law_ValidSteps (a b : Option Addr) (c d : Nat) (xs ys : List Nat) (w : World) (hs : Fs w a xs) (ht : Fs w b ys) (hw : ∀ j, j < xs.length → xs.getD j 0 < 4294967296) (hw2 : ∀ j, j < ys.length → ys.getD j 0 < 4294967296) (hm : xs.length ≤ maxLen) (hm2 : ys.length ≤ maxLen) :
    Calls Try.prog 3 #[.agg #[.slice a xs.length c, .slice b ys.length d]] w (RetVB (.bool true) w) := by
  have HS := Lib.hid (And.intro hs ht)
  have HW := Lib.hid (And.intro hw hw2)
  clear hs ht hw hw2
  unfold maxLen at hm hm2
  by_cases hl : xs.length + ys.length ≤ 1048576
  · obtain ⟨v, hv⟩ : ∃ v, v = vsB xs ys := ⟨_, rfl⟩
    have HV := Lib.hid hv.symm
    clear hv
    go_enter Try.func3, Try.ntmps3
    go_wp2_with fail
    refine (laws_szSteps_small a b xs.length ys.length c d 1048576 hl (by omega) _).mono ?_
    rintro _ w1 ⟨rfl, hB1⟩
    have K1 := Lib.hid ((Bk.new w (.slice a xs.length c) (.slice b ys.length d) _).below hB1 (by simp))
    have B1 := Lib.hid ((below1 w _).trans (hB1.mono (by simp)))
    clear hB1
    obtain ⟨k0, k1, k2⟩ := K1.out
    go_wp2_with fail
    refine (laws_toSteps a b c d xs ys _ (HS.out.1.below B1.out) (HS.out.2.below B1.out) (by omega) (by omega)).mono ?_
    rintro _ w2 ⟨g, h, rfl, hg, hh, hgh, hR, hR2, hB⟩
    have K2 := Lib.hid (K1.out.below hB k2)
    have B2 := Lib.hid (B1.out.trans (hB.mono (by omega)))
    have R2 := Lib.hid (And.intro hR hR2)
    clear hB hR hR2 k0 k1 k2 K1 B1 hg hh hgh
    go_wp2_with fail
    refine (spec_ValidSteps _ _ _ _ xs ys _ R2.out.1.Fs R2.out.2.Fs (by omega) (by omega)).mono ?_
    rw [HV.out]
    rintro _ w3 ⟨rfl, hB⟩
    have K3 := Lib.hid (K2.out.below hB K2.out.2.2)
    have B3 := Lib.hid (B2.out.trans (hB.mono B2.out.size))
    clear hB R2 K2 B2
    obtain ⟨k0, k1, k2⟩ := K3.out
    go_wp2_with fail
    refine (laws_toSteps a b c d xs ys _ (HS.out.1.below B3.out) (HS.out.2.below B3.out) (by omega) (by omega)).mono ?_
    rintro _ w4 ⟨g, h, rfl, hg, hh, hgh, hR, hR2, hB⟩
    have K4 := Lib.hid (K3.out.below hB k2)
    have B4 := Lib.hid (B3.out.trans (hB.mono (by omega)))
    have R4 := Lib.hid (And.intro hR hR2)
    clear hB hR hR2 k0 k1 k2 K3 B3 hg hh hgh
    go_wp2_with fail
    refine (impl_ValidSteps _ _ _ _ xs ys _ (R4.out.1.Fs.below (below1 _ _)) (R4.out.2.Fs.below (below1 _ _)) (by omega) (by omega)).mono ?_
    rw [HV.out]
    rintro _ w5 ⟨rfl, hB⟩
    have K5 := Lib.hid ((K4.out.below (below1 w4 _) K4.out.2.2).below hB (by have := K4.out.2.2; simp; omega))
    have X5 := Lib.hid ((Bk.new w4 (.slice (some ⟨g, 0, none⟩) xs.length xs.length) (.slice (some ⟨h, 0, none⟩) ys.length ys.length) _).below hB (by simp))
    have B5 := Lib.hid (B4.out.trans (((below1 w4 _).trans (hB.mono (by simp))).mono B4.out.size))
    have R5 := Lib.hid (And.intro ((R4.out.1.below (below1 w4 _)).below hB) ((R4.out.2.below (below1 w4 _)).below hB))
    clear hB R4 K4 B4
    have hvv : (v != v) = false := by cases v <;> rfl
    obtain ⟨k0, k1, k2⟩ := K5.out
    obtain ⟨x0, x1, x2⟩ := X5.out
    have FA := Lib.hid (show Fs w5.drew a xs ∧ Fs w5.drew b ys from ⟨(HS.out.1.below B5.out).drewN 1, (HS.out.2.below B5.out).drewN 1⟩)
    have hl1 : xs.length ≤ 1048576 := by omega
    have hl2 : ys.length ≤ 1048576 := by omega
    go_wp2_with fail
    go_region_held3 (fun w' => w'.cell? ⟨w.heap.size, 0, none⟩ = some (.slice a xs.length c) ∧ w'.cell? ⟨w.heap.size, 1, none⟩ = some (.slice b ys.length d) ∧ w'.cell? ⟨w4.heap.size, 0, none⟩ = some (.slice (some ⟨g, 0, none⟩) xs.length xs.length) ∧ w'.cell? ⟨w4.heap.size, 1, none⟩ = some (.slice (some ⟨h, 0, none⟩) ys.length ys.length)) (first | exact (two_blocks (by assumption) (by assumption)) | go_keep)
      (first
        | (go_at_call 10; refine (laws_toSteps a b c d xs ys w5.drew FA.out.1 FA.out.2 hl1 hl2).mono ?_; rintro _ w6 ⟨g6, h6, rfl, hg6, hh6, hgh6, hR6, hR62, hB6⟩; have hC6 := undrew hB6; have K6 := K5.out.below hC6 k2; have X6 := X5.out.below hC6 x2; have B6 := Lib.hid (B5.out.trans (hC6.mono B5.out.size)); have R6 := Lib.hid (And.intro hR6 hR62); have R56 := Lib.hid (And.intro (R5.out.1.below hC6) (R5.out.2.below hC6)); clear hR6 hR62 hB6 hC6)
        | (go_at_call 12; refine (laws_eqSteps _ _ _ _ _ _ _ _ xs ys xs ys _ R56.out.1.Fs R56.out.2.Fs R6.out.1.Fs R6.out.2.Fs hl1 hl2 rfl rfl HW.out.1 HW.out.2 (fun _ _ => rfl) (fun _ _ => rfl)).mono ?_; rintro _ w7 ⟨rfl, hB7⟩; have K7 := K6.below hB7 K6.2.2; have X7 := X6.below hB7 X6.2.2; have B7 := Lib.hid (B6.out.trans (hB7.mono B6.out.size)); clear hB7 K6 X6))
    all_goals go_wp2
    all_goals go_ret
    all_goals exact ⟨rfl, B7.out⟩
  · go_enter Try.func3, Try.ntmps3
    go_wp2_with fail
    refine (laws_szSteps_great a b xs.length ys.length c d 1048576 (by omega) hm hm2 (by omega) _).mono ?_
    rintro _ w1 ⟨rfl, hB1⟩
    go_wp2
    go_ret
    exact ⟨rfl, (below1 w _).trans (hB1.mono (by simp))⟩
end Go.Proofs.Ytkdojogjalkddaa
