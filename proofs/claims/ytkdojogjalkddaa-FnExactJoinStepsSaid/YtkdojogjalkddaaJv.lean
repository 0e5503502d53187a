/- JoinSteps of the program: good arguments, walked. -/
import Derived.Test.YtkdojogjalkddaaJu
import Derived.Deep.DeepCutAuto
namespace Go.Proofs.Ytkdojogjalkddaa
set_option maxRecDepth 100000
set_option linter.unusedVariables false
open Go.RowKit

set_option maxHeartbeats 8000000 in
theorem impl_JoinSteps_good (a b a' b' : Option Addr) (c d c' d' g : Nat) (xs ys xs' ys' : List Nat) (w : World) (hs : Fs w a xs) (ht : Fs w b ys) (hs' : Fs w a' xs') (ht' : Fs w b' ys') (hl : xs.length ≤ 1048576) (hl2 : ys.length ≤ 1048576) (hl3 : xs'.length ≤ 1048576) (hl4 : ys'.length ≤ 1048576) (hd : ys'.length ≤ d') (hw1 : ∀ j, j < xs.length → xs.getD j 0 < 4294967296) (hw2 : ∀ j, j < ys.length → ys.getD j 0 < 4294967296) (hw3 : ∀ j, j < xs'.length → xs'.getD j 0 < 4294967296) (hw4 : ∀ j, j < ys'.length → ys'.getD j 0 < 4294967296) (hb : jnB xs ys xs' ys' g = true) (v : Bool) (hvv : vsB (jnE xs xs' (jnM xs xs' g) xs'.length) (jnH ys ys' xs'.length) = v) (fs ks : List Nat) (hfs : fs = if v then jnE xs xs' (jnM xs xs' g) xs'.length else []) (hks : ks = if v then jnH ys ys' xs'.length else []) :
    Calls Try.prog 23 #[.agg #[.slice a xs.length c, .slice b ys.length d], .agg #[.slice a' xs'.length c', .slice b' ys'.length d'], .float .f32 g] w (RetSt fs ks v w) := by
  obtain ⟨W, hW⟩ : ∃ W, W = Wj w (.slice a xs.length c) (.slice b ys.length d) (.slice a' xs'.length c') (.slice b' ys'.length d') := ⟨_, rfl⟩
  have K0 := Lib.hid (show Kp w _ [] W from hW ▸ Wj_new w (.slice a xs.length c) (.slice b ys.length d) (.slice a' xs'.length c') (.slice b' ys'.length d'))
  have Z0 := Lib.hid (show W.frozen? ⟨w.heap.size + 2, 0, none⟩ = false ∧ W.frozen? ⟨w.heap.size + 2, 1, none⟩ = false from hW ▸ And.intro (Wj_frozen w _ _ _ _ 0) (Wj_frozen w _ _ _ _ 1))
  have hsz : w.heap.size + 3 = W.heap.size := (hW ▸ Wj_size w _ _ _ _).symm
  have k0 : ∀ p : Bw W.heap.size W, p.wd.cell? ⟨w.heap.size, 0, none⟩ = some (.slice a xs.length c) := fun p => p.cell (K0.out.nth 2 rfl).1 (K0.out.nth 2 rfl).2.2
  have k1 : ∀ p : Bw W.heap.size W, p.wd.cell? ⟨w.heap.size, 1, none⟩ = some (.slice b ys.length d) := fun p => p.cell (K0.out.nth 2 rfl).2.1 (K0.out.nth 2 rfl).2.2
  have k2 : ∀ p : Bw W.heap.size W, p.wd.cell? ⟨w.heap.size + 1, 0, none⟩ = some (.slice a' xs'.length c') := fun p => p.cell (K0.out.nth 1 rfl).1 (K0.out.nth 1 rfl).2.2
  have k3 : ∀ p : Bw W.heap.size W, p.wd.cell? ⟨w.heap.size + 1, 1, none⟩ = some (.slice b' ys'.length d') := fun p => p.cell (K0.out.nth 1 rfl).2.1 (K0.out.nth 1 rfl).2.2
  have C1 := Lib.hid (fun p : Bw W.heap.size W => impl_ValidSteps a b c d xs ys p.wd ((K0.out.fs hs).below p.h) ((K0.out.fs ht).below p.h) hl hl2)
  have C2 := Lib.hid (fun p : Bw W.heap.size W => impl_ValidSteps a' b' c' d' xs' ys' p.wd ((K0.out.fs hs').below p.h) ((K0.out.fs ht').below p.h) hl3 hl4)
  obtain ⟨hva, hvb, hg, h0, h1, hS⟩ := jnB_parts hb
  rw [hva] at C1
  rw [hvb] at C2
  have C3 := Lib.hid (fun p : Bw W.heap.size W => (impl_IsFinite g p.wd).mono fun _ _ h => h.b)
  have hgf : isFin (cn .f32 g) = true := by unfold posC at hg; simp only [Bool.and_eq_true] at hg; exact hg.1
  rw [hgf] at C3
  have hgl : (FloatKind.f32.format.order g 0 == some .lt || FloatKind.f32.format.order g 0 == some .eq) = false := by have := not_leq hgf; unfold posC at hg; rw [hgf, Bool.true_and] at hg; rw [hg] at this; simpa using this
  have e1 : ((xs.length : Int) == 0) = false := by have := List.length_pos_iff.2 h0; simp; omega
  have e2 : decide ((xs.length : Int) = 0) = false := by have := List.length_pos_iff.2 h0; simp; omega
  have e3 : ((xs'.length : Int) == 0) = false := by have := List.length_pos_iff.2 h1; simp; omega
  have e4 : decide ((xs'.length : Int) = 0) = false := by have := List.length_pos_iff.2 h1; simp; omega
  have HS := Lib.hid (And.intro (And.intro (K0.out.fs hs) (K0.out.fs ht)) (And.intro (K0.out.fs hs') (K0.out.fs ht')))
  have HL := Lib.hid (And.intro (vsB_ok hva) (vsB_ok hvb))
  have HW := Lib.hid (And.intro (And.intro hw1 hw2) (And.intro hw3 hw4))
  have HV := Lib.hid (And.intro hvv (And.intro hfs hks))
  have HD := Lib.hid hd
  have n0 : 0 < xs.length := List.length_pos_iff.2 h0
  have n1' : 0 < xs'.length := List.length_pos_iff.2 h1
  have M := Lib.hid (mv_is (hw1 (xs.length - 1) (by omega)) (fin_at (vsB_ok hva).2.2.1 (j := xs.length - 1) (by omega)) (hw3 0 n1') (fin_at (vsB_ok hvb).2.2.1 (j := 0) n1') hgf)
  have N0 := Lib.hid (And.intro h0 (show ys ≠ [] by intro q; have := (vsB_ok hva).2.1; rw [q] at this; simp at this))
  obtain ⟨b1, off1, rfl, _, hc1⟩ := (K0.out.fs ht).at (k := xs.length) (by have := (vsB_ok hva).2.1; omega)
  obtain ⟨b2, off2, rfl, _, hc2⟩ := (K0.out.fs ht').at (k := 0) (by have := (vsB_ok hvb).2.1; omega)
  have r1 : ∀ p : Bw W.heap.size W, p.wd.cell? ⟨b1, off1 + xs.length, none⟩ = some (.float .f32 (ys.getD xs.length 0)) := fun p => p.cell (hc1 xs.length (by have := (vsB_ok hva).2.1; omega)) (by assumption)
  have r2 : ∀ p : Bw W.heap.size W, p.wd.cell? ⟨b2, off2, none⟩ = some (.float .f32 (ys'.getD 0 0)) := fun p => p.cell (hc2 0 (by have := (vsB_ok hvb).2.1; omega)) (by assumption)
  have l1 : (xs.length : Int) < (ys.length : Int) := by have := (vsB_ok hva).2.1; omega
  have l2 : (0 : Int) < (ys'.length : Int) := by have := (vsB_ok hvb).2.1; omega
  have l3 : 0 < ys'.length := by have := (vsB_ok hvb).2.1; omega
  have l4 : (0 : Int) ≤ (xs.length : Int) := by omega
  clear hc1 hc2
  have C4 := Lib.hid (fun p : Bw W.heap.size W => (impl_SameNumber (ys.getD xs.length 0) (ys'.getD 0 0) (hw2 _ (by have := (vsB_ok hva).2.1; omega)) (hw4 _ l3) p.wd).mono fun _ _ h => h.b)
  rw [show decide (cn .f32 (ys.getD xs.length 0) = cn .f32 (ys'.getD 0 0)) = true from hS] at C4
  generalize ys.getD xs.length 0 = x at r1 C4
  generalize ys'.getD 0 0 = y at r2 C4
  have B1 := Lib.hid (And.intro (show b1 < W.heap.size by assumption) (show b2 < W.heap.size by assumption))
  clear hw1 hw2 hw3 hw4 hb hvv hfs hks hva hvb hg hS h0 h1 hgf hd
  clear hs ht hs' ht' hl hl2 hl3 hl4
  go_enter Try.func23, Try.ntmps23
  go_wp2_with fail
  change Code.wp _ _ _ _ (Wj w (.slice a xs.length c) (.slice _ ys.length d) (.slice a' xs'.length c') (.slice _ ys'.length d'))
  rw [← hW]
  clear hW
  refine wp_region_below W.heap.size (by kernel_rfl) (by kernel_rfl) ?_
  repeat (go_big_quiet_step (first
    | (go_at_call_of 11 a; exact Calls.bw (Nat.le_refl _) (C1.out _))
    | (go_at_call_of 11 a'; exact Calls.bw (Nat.le_refl _) (C2.out _))
    | (go_at_call 34; exact Calls.bw (Nat.le_refl _) (C3.out _))
    | (go_at_call 42; exact Calls.bw (Nat.le_refl _) (C4.out _))))
  refine wpQuiet_nil ?_
  rintro _ ⟨p, rfl⟩
  have K1 := Lib.hid (K0.out.below p.h)
  have Z1 := Lib.hid (And.intro ((p.h.frozen (p := ⟨w.heap.size + 2, 0, none⟩) (K0.out.nth 0 rfl).2.2).trans Z0.out.1) ((p.h.frozen (p := ⟨w.heap.size + 2, 1, none⟩) (K0.out.nth 0 rfl).2.2).trans Z0.out.2))
  have HS1 := Lib.hid (And.intro (And.intro (HS.out.1.1.below p.h) (HS.out.1.2.below p.h)) (And.intro (HS.out.2.1.below p.h) (HS.out.2.2.below p.h)))
  have B2 := Lib.hid (show b2 < p.wd.heap.size from Nat.lt_of_lt_of_le B1.out.2 p.h.size)
  clear k0 k1 k2 k3 r1 r2 C1 C2 C3 C4 hgl hsz e1 e2 e3 e4 HS B1 K0 Z0
  generalize p.wd = W1 at K1 Z1 HS1 B2 ⊢
  clear p
  obtain ⟨b3, off3, rfl, _, hc1⟩ := HS1.out.1.1.at (k := xs.length - 1) (by omega)
  have r1 := hc1 (xs.length - 1) (by omega)
  obtain ⟨b4, off4, rfl, _, hc2⟩ := HS1.out.2.1.at (k := 0) (by omega)
  have r2 := hc2 0 n1'
  rw [Nat.add_zero] at r2
  clear hc1 hc2
  have hadd := fun ty w' => add_run M.out.1 ty w'
  have hsub := fun ty w' => sub_run M.out.2.1 ty w'
  have HM := Lib.hid (show cn .f32 (jnM xs xs' g) = some (jnM xs xs' g) from M.out.2.2)
  rw [show mvN (xs.getD (xs.length - 1) 0) g (xs'.getD 0 0) = jnM xs xs' g from rfl] at hsub
  clear M
  generalize agN (xs.getD (xs.length - 1) 0) g = ag at hadd hsub
  generalize xs.getD (xs.length - 1) 0 = x0 at hadd r1
  generalize xs'.getD 0 0 = y0 at hsub r2
  generalize jnM xs xs' g = mo at hsub HM HV
  obtain ⟨k0, k1, k2⟩ := K1.out.nth 2 rfl
  obtain ⟨j0, j1, j2⟩ := K1.out.nth 1 rfl
  have s1 : (0 : Int) ≤ (xs.length : Int) - 1 := by omega
  have s2 : (xs.length : Int) - 1 < (xs.length : Int) := by omega
  have s3 : ((xs.length : Int) - 1).toNat = xs.length - 1 := by omega
  have s4 : IntKind.i64.wrap ((xs.length : Int) - 1) = (xs.length : Int) - 1 := IntWalk.i64_in _ (by have := HL.out.1.1; omega)
  have s5 : (0 : Int) < (xs'.length : Int) := by omega
  go_wp2_with fail
  go_quiet (fail)
  clear r1 r2 hadd hsub s1 s2 s3 s4 s5 k0 k1 k2 j0 j1 j2
  have K2 := Lib.hid (K1.out.drewN nq)
  have Z2 := Lib.hid (show (W1.drewN nq).frozen? ⟨w.heap.size + 2, 0, none⟩ = false ∧ (W1.drewN nq).frozen? ⟨w.heap.size + 2, 1, none⟩ = false from Z1.out)
  have HS2 := Lib.hid (And.intro (And.intro (HS1.out.1.1.drewN nq) (HS1.out.1.2.drewN nq)) (And.intro (HS1.out.2.1.drewN nq) (HS1.out.2.2.drewN nq)))
  have B3 := Lib.hid (show b2 < (W1.drewN nq).heap.size from B2.out)
  clear K1 Z1 HS1 B2
  generalize World.drewN _ nq = wC at K2 Z2 HS2 B3 ⊢
  go_upto_region 4 with fail
  have HT := Lib.hid (Fs_tail HS2.out.2.2 B3.out)
  have J0 := Lib.hid (Jx.start (.slice (some ⟨b1, off1, none⟩) ys.length d) (.slice (some ⟨b2, off2 + 1, none⟩) (ys'.length - 1) (d' - 1)) wC)
  have d1 : (1 : Int) ≤ (ys'.length : Int) := by omega
  have d2 : (ys'.length : Int) ≤ (d' : Int) := by have := HD.out; omega
  have d3 : ¬ d' = 1 := by have := HL.out.2.2.1; have := HD.out; omega
  obtain ⟨k0, k1, k2⟩ := K2.out.nth 2 rfl
  obtain ⟨j0, j1, j2⟩ := K2.out.nth 1 rfl
  have yC : w.heap.size + 2 < wC.heap.size := (K2.out.nth 0 rfl).2.2
  go_cut [9] (fun s9 wx => ∃ q g4 c4 g5 c5 : Nat, s9 = .pointer (some ⟨q, 0, none⟩) ∧ Hid (Tt wC wx q (.slice (some ⟨g4, 0, none⟩) xs.length c4) xs (.slice (some ⟨g5, 0, none⟩) (ys.length + xs'.length) c5) (jnH ys ys' xs'.length)))
  case first =>
    have tl : ys'.tail.length = ys'.length - 1 := by simp
    have tn : ys'.tail ≠ [] := by intro q; have := congrArg List.length q; rw [tl, List.length_nil] at this; have := HL.out.2.2.1; omega
    have hlx : xs.length ≤ 1048577 := by have := HL.out.1.1; omega
    have hly : ys.length ≤ 1048577 := by have := HL.out.1; omega
    have hlt : ys'.tail.length ≤ 1048577 := by have := HL.out.2; omega
    go_region_held3 (fun w' => w'.cell? ⟨w.heap.size, 0, none⟩ = some (.slice (some ⟨b3, off3, none⟩) xs.length c) ∧ w'.cell? ⟨w.heap.size, 1, none⟩ = some (.slice (some ⟨b1, off1, none⟩) ys.length d) ∧ w'.cell? ⟨w.heap.size + 1, 1, none⟩ = some (.slice (some ⟨b2, off2, none⟩) ys'.length d')) (first | exact ⟨by assumption, by assumption, by assumption⟩ | (refine ⟨?_, ?_, ?_⟩ <;> (rw [World.cell?_setCell_far, World.cell?_setCell_far] <;> first | assumption | (dsimp only; omega))) | go_keep)
      (first
        | (go_at_call 36; have hJ := J0.out.drew; have hF := HS2.out.1.1.below hJ.base; (with_reducible refine (slices_Clone _ c xs _ hF N0.out.1 hlx).mono ?_); rintro _ w4 ⟨g4, c4, rfl, _, hO4, hB4⟩; have J1 := Lib.hid (hJ.call hO4 hB4); clear hO4 hB4 hJ hF J0; have y4 := J1.out.base.size; have K3 := Lib.hid (K2.out.below J1.out.base); obtain ⟨k0, k1, _⟩ := K3.out.nth 2 rfl; obtain ⟨_, j1, _⟩ := K3.out.nth 1 rfl; dsimp only)
        | (go_at_call 36; have hJ := (J0.out.row (N := wC.heap.size) rfl 22).drew; have hF := HS2.out.1.1.below hJ.base; (with_reducible refine (slices_Clone _ c xs _ hF N0.out.1 hlx).mono ?_); rintro _ w4 ⟨g4, c4, rfl, _, hO4, hB4⟩; have J1 := Lib.hid (hJ.call hO4 hB4); clear hO4 hB4 hJ hF J0; have y4 := J1.out.base.size; have K3 := Lib.hid (K2.out.below J1.out.base); obtain ⟨k0, k1, _⟩ := K3.out.nth 2 rfl; obtain ⟨_, j1, _⟩ := K3.out.nth 1 rfl; dsimp only)
        | (go_at_call 36; have hJ := (J0.out.box (N := wC.heap.size) rfl).drew; have hF := HS2.out.1.1.below hJ.base; (with_reducible refine (slices_Clone _ c xs _ hF N0.out.1 hlx).mono ?_); rintro _ w4 ⟨g4, c4, rfl, _, hO4, hB4⟩; have J1 := Lib.hid (hJ.call hO4 hB4); clear hO4 hB4 hJ hF J0; have y4 := J1.out.base.size; have K3 := Lib.hid (K2.out.below J1.out.base); obtain ⟨k0, k1, _⟩ := K3.out.nth 2 rfl; obtain ⟨_, j1, _⟩ := K3.out.nth 1 rfl; dsimp only)
        | (go_at_call 36; have hJ := ((J0.out.row (N := wC.heap.size) rfl 22).box (N := wC.heap.size + 1) (by simp)).drew; have hF := HS2.out.1.1.below hJ.base; (with_reducible refine (slices_Clone _ c xs _ hF N0.out.1 hlx).mono ?_); rintro _ w4 ⟨g4, c4, rfl, _, hO4, hB4⟩; have J1 := Lib.hid (hJ.call hO4 hB4); clear hO4 hB4 hJ hF J0; have y4 := J1.out.base.size; have K3 := Lib.hid (K2.out.below J1.out.base); obtain ⟨k0, k1, _⟩ := K3.out.nth 2 rfl; obtain ⟨_, j1, _⟩ := K3.out.nth 1 rfl; dsimp only)
        | (go_at_call 36; have hJ := ((J0.out.box (N := wC.heap.size) rfl).row (N := wC.heap.size + 1) (by simp) 22).drew; have hF := HS2.out.1.1.below hJ.base; (with_reducible refine (slices_Clone _ c xs _ hF N0.out.1 hlx).mono ?_); rintro _ w4 ⟨g4, c4, rfl, _, hO4, hB4⟩; have J1 := Lib.hid (hJ.call hO4 hB4); clear hO4 hB4 hJ hF J0; have y4 := J1.out.base.size; have K3 := Lib.hid (K2.out.below J1.out.base); obtain ⟨k0, k1, _⟩ := K3.out.nth 2 rfl; obtain ⟨_, j1, _⟩ := K3.out.nth 1 rfl; dsimp only)
        | (go_at_call 43; have hJ := J1.out; have hR := hJ.rowAt; have hF := HS2.out.1.2.below hJ.base; have hF2 := HT.out.below hJ.base; (with_reducible refine (slices_Concat2 _ _ _ d (d' - 1) ys ys'.tail _ hR.2.2 hR.1 (by rw [tl]; exact hR.2.1) hF hF2 N0.out.2 tn hly hlt).mono ?_); rintro _ w5 ⟨g5, c5, rfl, hO5, hB5⟩; have J2 := Lib.hid (hJ.call hO5 hB5); clear hO5 hB5 hJ hR hF hF2 J1; have K4 := Lib.hid (K2.out.below J2.out.base); obtain ⟨k0, k1, _⟩ := K4.out.nth 2 rfl; obtain ⟨_, j1, _⟩ := K4.out.nth 1 rfl; (first | (obtain ⟨b0, b00, z0, z1⟩ := J2.out.boxAt) | skip); dsimp only)
        | (go_at_call 43; have hJ := (J1.out.row (N := w4.heap.size) rfl 22); have hR := hJ.rowAt; have hF := HS2.out.1.2.below hJ.base; have hF2 := HT.out.below hJ.base; (with_reducible refine (slices_Concat2 _ _ _ d (d' - 1) ys ys'.tail _ hR.2.2 hR.1 (by rw [tl]; exact hR.2.1) hF hF2 N0.out.2 tn hly hlt).mono ?_); rintro _ w5 ⟨g5, c5, rfl, hO5, hB5⟩; have J2 := Lib.hid (hJ.call hO5 hB5); clear hO5 hB5 hJ hR hF hF2 J1; have K4 := Lib.hid (K2.out.below J2.out.base); obtain ⟨k0, k1, _⟩ := K4.out.nth 2 rfl; obtain ⟨_, j1, _⟩ := K4.out.nth 1 rfl; (first | (obtain ⟨b0, b00, z0, z1⟩ := J2.out.boxAt) | skip); dsimp only)
        | (go_at_call 43; have hJ := (J1.out.box (N := w4.heap.size) rfl); have hR := hJ.rowAt; have hF := HS2.out.1.2.below hJ.base; have hF2 := HT.out.below hJ.base; (with_reducible refine (slices_Concat2 _ _ _ d (d' - 1) ys ys'.tail _ hR.2.2 hR.1 (by rw [tl]; exact hR.2.1) hF hF2 N0.out.2 tn hly hlt).mono ?_); rintro _ w5 ⟨g5, c5, rfl, hO5, hB5⟩; have J2 := Lib.hid (hJ.call hO5 hB5); clear hO5 hB5 hJ hR hF hF2 J1; have K4 := Lib.hid (K2.out.below J2.out.base); obtain ⟨k0, k1, _⟩ := K4.out.nth 2 rfl; obtain ⟨_, j1, _⟩ := K4.out.nth 1 rfl; (first | (obtain ⟨b0, b00, z0, z1⟩ := J2.out.boxAt) | skip); dsimp only)
        | (go_at_call 43; have hJ := ((J1.out.row (N := w4.heap.size) rfl 22).box (N := w4.heap.size + 1) (by simp)); have hR := hJ.rowAt; have hF := HS2.out.1.2.below hJ.base; have hF2 := HT.out.below hJ.base; (with_reducible refine (slices_Concat2 _ _ _ d (d' - 1) ys ys'.tail _ hR.2.2 hR.1 (by rw [tl]; exact hR.2.1) hF hF2 N0.out.2 tn hly hlt).mono ?_); rintro _ w5 ⟨g5, c5, rfl, hO5, hB5⟩; have J2 := Lib.hid (hJ.call hO5 hB5); clear hO5 hB5 hJ hR hF hF2 J1; have K4 := Lib.hid (K2.out.below J2.out.base); obtain ⟨k0, k1, _⟩ := K4.out.nth 2 rfl; obtain ⟨_, j1, _⟩ := K4.out.nth 1 rfl; (first | (obtain ⟨b0, b00, z0, z1⟩ := J2.out.boxAt) | skip); dsimp only)
        | (go_at_call 43; have hJ := ((J1.out.box (N := w4.heap.size) rfl).row (N := w4.heap.size + 1) (by simp) 22); have hR := hJ.rowAt; have hF := HS2.out.1.2.below hJ.base; have hF2 := HT.out.below hJ.base; (with_reducible refine (slices_Concat2 _ _ _ d (d' - 1) ys ys'.tail _ hR.2.2 hR.1 (by rw [tl]; exact hR.2.1) hF hF2 N0.out.2 tn hly hlt).mono ?_); rintro _ w5 ⟨g5, c5, rfl, hO5, hB5⟩; have J2 := Lib.hid (hJ.call hO5 hB5); clear hO5 hB5 hJ hR hF hF2 J1; have K4 := Lib.hid (K2.out.below J2.out.base); obtain ⟨k0, k1, _⟩ := K4.out.nth 2 rfl; obtain ⟨_, j1, _⟩ := K4.out.nth 1 rfl; (first | (obtain ⟨b0, b00, z0, z1⟩ := J2.out.boxAt) | skip); dsimp only))
    all_goals
      have T0 := (by first | exact J2.out.fin | exact J2.out.finNew rfl : Tt wC _ _ (.slice (some ⟨g4, 0, none⟩) xs.length c4) xs (.slice (some ⟨g5, 0, none⟩) (ys.length + ys'.tail.length) c5) (ys ++ ys'.tail))
      rw [tl] at T0
      go_wp2_with fail
      go_meet
      case rel => exact ⟨_, g4, c4, g5, c5, rfl, Lib.hid (by rw [jnH_all HL.out.2.2.1, show ys.length + xs'.length = ys.length + (ys'.length - 1) by have := HL.out.2.2.1; omega]; exact T0)⟩
  case rest =>
    obtain ⟨q, g4, c4, g5, c5, rfl, hT⟩ := hcut
    clear k0 k1 k2 j0 j1 j2 d1 d2 d3 HT J0
    obtain ⟨j0, j1, j2⟩ := (K2.out.below hT.out.base).nth 1 rfl
    go_wp2
    clear j0 j1 j2
    go_loopw [11, 86] (fun e i wr => ∃ (k : Nat) (ae : Option Addr) (ce : Nat), k ≤ xs'.length ∧ i = .int .i64 k ∧ Hid (Tt wC wr q (.slice ae (xs.length + k) ce) (jnE xs xs' mo k) (.slice (some ⟨g5, 0, none⟩) (ys.length + xs'.length) c5) (jnH ys ys' xs'.length))) (fun _ i _ => xs'.length - (intOf i).toNat)
    case atStart => exact ⟨0, some ⟨g4, 0, none⟩, c4, Nat.zero_le _, rfl, Lib.hid (by rw [jnE_0]; exact hT.out)⟩
    case round =>
      clear hT
      obtain ⟨k, ae, ce, hk, rfl, hT⟩ := hrel
      by_cases hlt : k < xs'.length
      · obtain ⟨o0, o1, o2⟩ := hT.out.cells
        obtain ⟨b5, off5, e5, _, hc1⟩ := (HS2.out.2.1.below hT.out.base).at hlt
        cases e5
        have r1 := hc1 k hlt
        clear hc1
        have hadd := fun ty w' => add_run (jn_is (HW.out.2.1 k hlt) (fin_at HL.out.2.2.2.1 hlt) HM.out) ty w'
        obtain ⟨g2, c2, w4, hrun, p0, f0, hT2⟩ := hT.out.pushE0 (jnV mo (xs'.getD k 0)) (by rw [jnE_len]; have := HL.out.1.1; have := HL.out.2.1; omega)
        rw [jnE_len] at hrun hT2
        rw [← jnE_snoc] at hT2
        have T2 := Lib.hid hT2
        clear hT2
        generalize jnV mo (xs'.getD k 0) = nx at hadd hrun
        generalize xs'.getD k 0 = x at r1 hadd
        have s1 : (0 : Int) ≤ (k : Int) := by omega
        have s2 : (k : Int) < (xs'.length : Int) := by omega
        have kb : xs'.length ≤ 11 := HL.out.2.1
        go_wp2_with (at_builtin; refine Lib.wpList_append_run _ rfl (.tmp 91) (.tmp 95) 22 22 rfl _ _ rfl rfl _ _ hrun ?_)
        go_roundw
        case rel => exact ⟨k + 1, some ⟨g2, 0, none⟩, c2, by omega, by go_num, T2⟩
        case measure => simp [intOf]; omega
      · obtain rfl : k = xs'.length := by omega
        have T2 := Lib.hid hT.out
        clear hT
        obtain ⟨o0, o1, o2⟩ := T2.out.cells
        obtain ⟨q0, q1, q2⟩ := (K2.out.below T2.out.base).nth 0 rfl
        have z0 : wr.frozen? ⟨w.heap.size + 2, 0, none⟩ = false := (T2.out.base.frozen (p := ⟨w.heap.size + 2, 0, none⟩) yC).trans Z2.out.1
        have z1 : wr.frozen? ⟨w.heap.size + 2, 1, none⟩ = false := (T2.out.base.frozen (p := ⟨w.heap.size + 2, 1, none⟩) yC).trans Z2.out.2
        have LE : (jnE xs xs' mo xs'.length).length = xs.length + xs'.length := jnE_len _ _ _ _
        have LH : (jnH ys ys' xs'.length).length = ys.length + xs'.length := jnH_len _ _ _
        cases v with
        | false =>
          have G := impl_checkedSteps_bad ae (some ⟨g5, 0, none⟩) ce c5 (jnE xs xs' mo xs'.length) (jnH ys ys' xs'.length) wr T2.out.fsE T2.out.fsH (by have := HL.out.1.1; have := HL.out.2.1; omega) (by have := HL.out.1.1; have := HL.out.2.1; have := HL.out.1.2.1; omega) HV.out.1
          rw [LE, LH] at G
          have GG := Lib.hid G
          clear G LE LH
          go_wp2_with fail
          refine GG.out.mono ?_
          rintro _ w6 ⟨rfl, hB⟩
          have K5 := Lib.hid ((K2.out.below T2.out.base).below hB)
          have z2 := (hB.frozen (p := ⟨w.heap.size + 2, 0, none⟩) q2).trans z0
          have z3 := (hB.frozen (p := ⟨w.heap.size + 2, 1, none⟩) q2).trans z1
          clear hB GG q0 q1 q2 z0 z1 o0 o1 o2
          obtain ⟨q0, q1, q2⟩ := K5.out.nth 0 rfl
          go_wp2
          refine bodyPost_ret (v := .tuple #[.agg #[.slice none 0 0, .slice none 0 0], .bool false]) (by simp [results, Try.results23, go_sem, q0, q1]) rfl ?_
          rw [HV.out.2.1, HV.out.2.2]
          exact RetSt.nil _ _ ((K5.out.base.setCell (by show _ ≤ w.heap.size + 2; omega) _).setCell (by show _ ≤ w.heap.size + 2; omega) _)
        | true =>
          have G := impl_checkedSteps_good ae (some ⟨g5, 0, none⟩) ce c5 (jnE xs xs' mo xs'.length) (jnH ys ys' xs'.length) wr T2.out.fsE T2.out.fsH (by have := HL.out.1.1; have := HL.out.2.1; omega) (by have := HL.out.1.1; have := HL.out.2.1; have := HL.out.1.2.1; omega) HV.out.1
          rw [LE, LH] at G
          have GG := Lib.hid G
          clear G LE LH
          go_wp2_with fail
          refine GG.out.mono ?_
          rintro _ w6 ⟨rfl, hB⟩
          have T4 := Lib.hid (T2.out.later hB)
          have z2 := (hB.frozen (p := ⟨w.heap.size + 2, 0, none⟩) q2).trans z0
          have z3 := (hB.frozen (p := ⟨w.heap.size + 2, 1, none⟩) q2).trans z1
          clear hB GG q0 q1 q2 z0 z1 o0 o1 o2 T2
          obtain ⟨q0, q1, q2⟩ := (K2.out.below T4.out.base).nth 0 rfl
          go_wp2
          refine bodyPost_ret (v := .tuple #[.agg #[.slice ae (xs.length + xs'.length) ce, .slice (some ⟨g5, 0, none⟩) (ys.length + xs'.length) c5], .bool true]) (by simp [results, Try.results23, go_sem, q0, q1]) rfl ?_
          rw [HV.out.2.1, HV.out.2.2]
          exact st_end K2.out.base yC T4.out (by omega)
end Go.Proofs.Ytkdojogjalkddaa
