/- JoinSteps of the reference: good arguments. -/
import Derived.Test.YtkdojogjalkddaaJp
namespace Go.Proofs.Ytkdojogjalkddaa
set_option maxRecDepth 100000
set_option linter.unusedVariables false
open Go.RowKit

/-- the copy, boxed: from here it grows -/
theorem Tt_own {w w' : World} {ve vh : Value} {xs ys : List Nat} (h : Ot w [(ve, xs), (vh, ys)] w') : Tt w (w'.alloc (.cells #[ve, vh] 27)) w'.heap.size ve xs vh ys := by
  have hE := h.2.1 (ve, xs) (by simp)
  have hH := h.2.1 (vh, ys) (by simp)
  have hp := List.pairwise_cons.1 h.2.2
  refine ⟨h.1.alloc h.1.size _, h.1.size, Bk.new w' _ _ _, World.frozen?_alloc_at _ _ _ _ rfl, World.frozen?_alloc_at _ _ _ _ rfl, hE.alloc _, hH.alloc _, fun q => ?_, fun q => ?_, fun k hk => hp.1 (vh, ys) (by simp) k hk⟩
  · have := (hE.lt q).2; omega
  · have := (hH.lt q).2; omega
theorem Ot.forms {w w' : World} {ve vh : Value} {xs ys : List Nat} (h : Ot w [(ve, xs), (vh, ys)] w') : ∃ a c b d, ve = .slice a xs.length c ∧ vh = .slice b ys.length d := by
  obtain ⟨a, c, e, _⟩ := (h.2.1 (ve, xs) (by simp)).Fs
  obtain ⟨b, d, e2, _⟩ := (h.2.1 (vh, ys) (by simp)).Fs
  exact ⟨a, c, b, d, e, e2⟩
/-- the result is laid, good -/
theorem jn_end {w wB wr : World} {o : Nat} {ve vh : Value} {es hs : List Nat} (hA : Aw w wB) (hT : Tt wB wr o ve es vh hs) :
    RetSt es hs true w (.returned (.tuple #[.agg #[ve, vh], .bool true])) ((wr.setCell ⟨w.heap.size, 0, none⟩ ve).setCell ⟨w.heap.size, 1, none⟩ vh) :=
  st_end hA.2.2.2 hA.1.2.2 hT (Nat.le_refl _)
/-- the result is laid, bad -/
theorem jn_end_bad {w wB wr : World} {o : Nat} {ve vh : Value} {es hs : List Nat} (hA : Aw w wB) (hT : Tt wB wr o ve es vh hs) (u u' : Value) :
    RetSt [] [] false w (.returned (.tuple #[.agg #[.slice none 0 0, .slice none 0 0], .bool false])) ((wr.setCell ⟨w.heap.size, 0, none⟩ u).setCell ⟨w.heap.size, 1, none⟩ u') :=
  (hA.later hT.1).nil _ _
theorem add_run {x y z : Nat} (h : cop .add .f32 (some x) (some y) = some z) (t : TypeId) (w : World) : (binOp .add t (.float .f32 x) (.float .f32 y)).run Try.prog w = .ok (.float .f32 z) w :=
  run_float_arith w .add t .f32 _ _ _ h
theorem sub_run {x y z : Nat} (h : cop .sub .f32 (some x) (some y) = some z) (t : TypeId) (w : World) : (binOp .sub t (.float .f32 x) (.float .f32 y)).run Try.prog w = .ok (.float .f32 z) w :=
  run_float_arith w .sub t .f32 _ _ _ h

theorem jnB_parts {xs ys xs' ys' : List Nat} {g : Nat} (h : jnB xs ys xs' ys' g = true) : vsB xs ys = true ∧ vsB xs' ys' = true ∧ posC (cn .f32 g) = true ∧ xs ≠ [] ∧ xs' ≠ [] ∧ jnS xs ys ys' = true := by
  unfold jnB at h
  simp only [Bool.and_eq_true, decide_eq_true_eq] at h
  exact h

set_option maxHeartbeats 8000000 in
theorem spec_l02Join_good (p q : Nat) (a b a' b' : Option Addr) (c d c' d' g : Nat) (xs ys xs' ys' : List Nat) (w : World) (hp : Bk w p (.slice a xs.length c) (.slice b ys.length d)) (hq : Bk w q (.slice a' xs'.length c') (.slice b' ys'.length d')) (hs : Fs w a xs) (ht : Fs w b ys) (hs' : Fs w a' xs') (ht' : Fs w b' ys')
    (hw1 : ∀ j, j < xs.length → xs.getD j 0 < 4294967296) (hw2 : ∀ j, j < ys.length → ys.getD j 0 < 4294967296) (hw3 : ∀ j, j < xs'.length → xs'.getD j 0 < 4294967296) (hw4 : ∀ j, j < ys'.length → ys'.getD j 0 < 4294967296) (hb : jnB xs ys xs' ys' g = true) (v : Bool) (hvv : vsB (jnE xs xs' (jnM xs xs' g) xs'.length) (jnH ys ys' xs'.length) = v) (fs ks : List Nat) (hfs : fs = if v then jnE xs xs' (jnM xs xs' g) xs'.length else []) (hks : ks = if v then jnH ys ys' xs'.length else []) :
    Calls Try.prog 41 #[.pointer (some ⟨p, 0, none⟩), .pointer (some ⟨q, 0, none⟩), .float .f32 g] w (RetSt fs ks v w) := by
  obtain ⟨hv, hv2, hg, h0, h1, hS⟩ := jnB_parts hb
  have HP := Lib.hid (And.intro hp hq)
  have HS := Lib.hid (And.intro (And.intro hs ht) (And.intro hs' ht'))
  have HL := Lib.hid (And.intro (vsB_ok hv) (vsB_ok hv2))
  have HW := Lib.hid (And.intro (And.intro hw1 hw2) (And.intro hw3 hw4))
  have HV := Lib.hid (And.intro hvv (And.intro hfs hks))
  have e1 : ((xs.length : Int) == 0) = false := by have := List.length_pos_iff.2 h0; simp; omega
  have e2 : decide ((xs.length : Int) = 0) = false := by have := List.length_pos_iff.2 h0; simp; omega
  have e3 : ((xs'.length : Int) == 0) = false := by have := List.length_pos_iff.2 h1; simp; omega
  have e4 : decide ((xs'.length : Int) = 0) = false := by have := List.length_pos_iff.2 h1; simp; omega
  have n0 : 0 < xs.length := List.length_pos_iff.2 h0
  have n1' : 0 < xs'.length := List.length_pos_iff.2 h1
  have C := Lib.hid (fun w' => hg ▸ spec_l02Above g w')
  have S := (show decide (cn .f32 (ys.getD xs.length 0) = cn .f32 (ys'.getD 0 0)) = true from hS)
  have hgf : isFin (cn .f32 g) = true := by unfold posC at hg; simp only [Bool.and_eq_true] at hg; exact hg.1
  have M := Lib.hid (mv_is (hw1 (xs.length - 1) (by omega)) (fin_at (vsB_ok hv).2.2.1 (j := xs.length - 1) (by omega)) (hw3 0 n1') (fin_at (vsB_ok hv2).2.2.1 (j := 0) n1') hgf)
  have N0 := Lib.hid (And.intro h0 (show ys ≠ [] by intro q; have := (vsB_ok hv).2.1; rw [q] at this; simp at this))
  clear hp hq hs ht hs' ht' hv hv2 hw1 hw2 hw3 hw4 hb hvv hfs hks hg hS h0 h1 hgf
  obtain ⟨b1, off1, rfl, _, hc1⟩ := HS.out.1.2.at (k := xs.length) (by have := HL.out.1.2.1; omega)
  obtain ⟨b2, off2, rfl, _, hc2⟩ := HS.out.2.2.at (k := 0) (by have := HL.out.2.2.1; omega)
  have r1 := hc1 xs.length (by have := HL.out.1.2.1; omega)
  have r2 := hc2 0 (by have := HL.out.2.2.1; omega)
  have l1 : (xs.length : Int) < (ys.length : Int) := by have := HL.out.1.2.1; omega
  have l2 : (0 : Int) < (ys'.length : Int) := by have := HL.out.2.2.1; omega
  have l3 : 0 < ys'.length := by have := HL.out.2.2.1; omega
  have wx := HW.out.1.2 xs.length (by have := HL.out.1.2.1; omega)
  have wy := HW.out.2.2 0 (by have := HL.out.2.2.1; omega)
  rw [Nat.add_zero] at r2
  clear hc1 hc2
  go_enter Try.func41, Try.ntmps41
  obtain ⟨k0, k1, k2⟩ := HP.out.1
  obtain ⟨j0, j1, j2⟩ := HP.out.2
  go_wp2_with fail
  generalize ys.getD xs.length 0 = x at r1 S wx
  generalize hyy : ys'.getD 0 0 = y at r2 S wy
  have D := Lib.hid (fun a b w' h h' => smB_one.trans S ▸ spec_l01SameAll a b 1 1 [x] [y] w' h h' (by simp) (by simp) (fun j hj => by simp at hj; subst hj; exact wx) (fun j hj => by simp at hj; subst hj; exact wy))
  clear S wx wy hyy
  go_region_held3 (fun w' => w'.cell? ⟨q, 0, none⟩ = some (.slice a' xs'.length c') ∧ w'.cell? ⟨p, 1, none⟩ = some (.slice (some ⟨b1, off1, none⟩) ys.length d) ∧ w'.cell? ⟨q, 1, none⟩ = some (.slice (some ⟨b2, off2, none⟩) ys'.length d') ∧ w'.cell? ⟨b1, off1 + xs.length, none⟩ = some (.float .f32 x) ∧ w'.cell? ⟨b2, off2, none⟩ = some (.float .f32 y)) (go_keep)
    (first | (go_at_call 49; refine (C.out _).mono ?_; rintro _ _ ⟨n1, rfl, rfl⟩) | (go_at_call 47; refine (D.out _ _ _ (by first | exact Fs_twoA _ _ _ _ _ _ (by simp) | exact Fs_twoB _ _ _ _ _ _ (by simp)) (by first | exact Fs_twoA _ _ _ _ _ _ (by simp) | exact Fs_twoB _ _ _ _ _ _ (by simp))).mono ?_; rintro _ _ ⟨n2, rfl, rfl⟩))
  all_goals
    obtain ⟨wB, A2, e⟩ : ∃ wB, Hid (Aw w wB) ∧ World.drewN _ n2 = wB := ⟨_, Lib.hid (aw_two w (1 + n1) n2 _ _), rfl⟩
    rw [e]
    clear e r1 r2 l1 l2 l3 k0 k1 k2 j0 j1 j2 C D
    have HP2 := Lib.hid (And.intro (HP.out.1.below A2.out.2.2.2 HP.out.1.2.2) (HP.out.2.below A2.out.2.2.2 HP.out.2.2.2))
    have HS2 := Lib.hid (And.intro (And.intro (HS.out.1.1.below A2.out.2.2.2) (HS.out.1.2.below A2.out.2.2.2)) (And.intro (HS.out.2.1.below A2.out.2.2.2) (HS.out.2.2.below A2.out.2.2.2)))
    clear HP HS
    obtain ⟨k0, k1, k2⟩ := HP2.out.1
    go_wp2_with fail
    refine (spec_l02Own p _ _ _ _ xs ys wB HP2.out.1.2.2 HP2.out.1.1 HP2.out.1.2.1 HS2.out.1.1 HS2.out.1.2 N0.out.1 N0.out.2 (by have := HL.out.1.1; omega) (by have := HL.out.1.1; have := HL.out.1.2.1; omega)).mono ?_
    rintro _ w3 ⟨ve, vh, rfl, hO⟩
    obtain ⟨ae, ce, ah, ch, rfl, rfl⟩ := hO.forms
    have T0 := Lib.hid (Tt_own hO)
    have HP3 := Lib.hid (And.intro (HP2.out.1.below hO.base HP2.out.1.2.2) (HP2.out.2.below hO.base HP2.out.2.2.2))
    have HS3 := Lib.hid (And.intro (HS2.out.1.1.below hO.base) (HS2.out.2.1.below hO.base))
    clear hO k0 k1 k2
    obtain ⟨b3, off3, rfl, _, hc1⟩ := HS3.out.1.at (k := xs.length - 1) (by omega)
    have r1 := hc1 (xs.length - 1) (by omega)
    obtain ⟨b4, off4, rfl, _, hc2⟩ := HS3.out.2.at (k := 0) (by omega)
    have r2 := hc2 0 n1'
    rw [Nat.add_zero] at r2
    clear hc1 hc2 HS3
    have hadd := fun ty w' => add_run M.out.1 ty w'
    have hsub := fun ty w' => sub_run M.out.2.1 ty w'
    have HM := Lib.hid (show cn .f32 (jnM xs xs' g) = some (jnM xs xs' g) from M.out.2.2)
    rw [show mvN (xs.getD (xs.length - 1) 0) g (xs'.getD 0 0) = jnM xs xs' g from rfl] at hsub
    clear M
    generalize agN (xs.getD (xs.length - 1) 0) g = ag at hadd hsub
    generalize xs.getD (xs.length - 1) 0 = x0 at hadd r1
    generalize xs'.getD 0 0 = y0 at hsub r2
    generalize jnM xs xs' g = mo at hsub HM HV
    obtain ⟨k0, k1, k2⟩ := HP3.out.1
    obtain ⟨j0, j1, j2⟩ := HP3.out.2
    have s1 : (0 : Int) ≤ (xs.length : Int) - 1 := by omega
    have s2 : (xs.length : Int) - 1 < (xs.length : Int) := by omega
    have s3 : ((xs.length : Int) - 1).toNat = xs.length - 1 := by omega
    have s4 : IntKind.i64.wrap ((xs.length : Int) - 1) = (xs.length : Int) - 1 := IntWalk.i64_in _ (by have := HL.out.1.1; omega)
    go_wp2_with fail
    go_quiet (fail)
    clear r1 r2 hadd hsub s1 s2 s3 s4 k0 k1 k2 j0 j1 j2 e1 e2 e3 e4
    have T1 := Lib.hid (T0.out.later (below_drewN' (Below.refl _ _) nq))
    clear T0
    generalize World.drewN _ nq = wC at T1 ⊢
    go_wp2
    go_loopw [11] (fun i wr => ∃ (k : Nat) (ae : Option Addr) (ce : Nat) (ah : Option Addr) (ch : Nat), k ≤ xs'.length ∧ i = .int .i64 k ∧ Hid (Tt wB wr w3.heap.size (.slice ae (xs.length + k) ce) (jnE xs xs' mo k) (.slice ah (ys.length + k) ch) (jnH ys ys' k))) (fun i _ => xs'.length - (intOf i).toNat)
    case atStart => exact ⟨0, ae, ce, ah, ch, Nat.zero_le _, rfl, Lib.hid (by rw [jnE_0, jnH_0]; exact T1.out)⟩
    case round =>
      clear T1
      obtain ⟨k, ae, ce, ah, ch, hk, rfl, hT⟩ := hrel
      by_cases hlt : k < xs'.length
      · obtain ⟨j0, j1, j2⟩ := HP2.out.2.below hT.out.base HP2.out.2.2.2
        obtain ⟨o0, o1, o2⟩ := hT.out.cells
        obtain ⟨b5, off5, e5, _, hc1⟩ := (HS2.out.2.1.below hT.out.base).at hlt
        cases e5
        have r1 := hc1 k hlt
        clear hc1
        have hadd := fun ty w' => add_run (jn_is (HW.out.2.1 k hlt) (fin_at HL.out.2.2.2.1 hlt) HM.out) ty w'
        obtain ⟨g2, c2, w4, hrun, p0, f0, hT2⟩ := hT.out.pushE (jnV mo (xs'.getD k 0)) (by rw [jnE_len]; have := HL.out.1.1; have := HL.out.2.1; omega)
        rw [jnE_len] at hrun hT2
        rw [← jnE_snoc] at hT2
        have T2 := Lib.hid hT2
        clear hT2
        generalize jnV mo (xs'.getD k 0) = nx at hadd hrun
        generalize xs'.getD k 0 = x at r1 hadd
        have s1 : (0 : Int) ≤ (k : Int) := by omega
        have s2 : (k : Int) < (xs'.length : Int) := by omega
        go_upto_region 9 with fail
        go_region_law (refine step_append_run rfl (.tmp 81) (.tmp 91) 22 (by rfl) _ _ (by rfl) (by rfl) _ _ hrun ?_)
        all_goals
          generalize World.setCell w4 ⟨w3.heap.size, 0, none⟩ (.slice (some ⟨g2, 0, none⟩) (xs.length + k + 1) c2) = W2 at T2 ⊢
          clear hrun p0 f0 hadd r1 j0 j1 j2 o0 o1 o2 s1 s2
          obtain ⟨j0, j1, j2⟩ := HP2.out.2.below T2.out.base HP2.out.2.2.2
          obtain ⟨o0, o1, o2⟩ := T2.out.cells
          have hlt2 : k + 1 < ys'.length := by have := HL.out.2.2.1; omega
          obtain ⟨b6, off6, e6, _, hc2⟩ := (HS2.out.2.2.below T2.out.base).at hlt2
          cases e6
          have r2 := hc2 (k + 1) hlt2
          clear hc2
          obtain ⟨g3, c3, w5, hrun, p0, f0, hT3⟩ := T2.out.pushH (ys'.getD (k + 1) 0) (by rw [jnH_len]; have := HL.out.1.1; have := HL.out.1.2.1; have := HL.out.2.1; omega)
          rw [jnH_len] at hrun hT3
          rw [← jnH_snoc] at hT3
          have T3 := Lib.hid hT3
          clear hT3
          generalize ys'.getD (k + 1) 0 = y at r2 hrun
          have s1 : (0 : Int) ≤ (k : Int) + 1 := by omega
          have s2 : (k : Int) + 1 < (ys'.length : Int) := by omega
          have s3 : ((k : Int) + 1).toNat = k + 1 := by omega
          have s4 : IntKind.i64.wrap ((k : Int) + 1) = (k : Int) + 1 := IntWalk.i64_in _ (by have := HL.out.2.1; omega)
          go_upto_region 10 with fail
          go_region_law (refine step_append_run rfl (.tmp 95) (.tmp 104) 22 (by rfl) _ _ (by rfl) (by rfl) _ _ hrun ?_)
          all_goals
            generalize World.setCell w5 ⟨w3.heap.size, 1, none⟩ (.slice (some ⟨g3, 0, none⟩) (ys.length + k + 1) c3) = W3 at T3 ⊢
            clear hrun p0 f0 r2 j0 j1 j2 o0 o1 o2 s1 s2 s3
            go_wp2
            go_roundw
            case rel => exact ⟨k + 1, some ⟨g2, 0, none⟩, c2, some ⟨g3, 0, none⟩, c3, by omega, by go_num, T3⟩
            case measure => simp [intOf]; omega
      · obtain rfl : k = xs'.length := by omega
        have T2 := Lib.hid hT.out
        clear hT
        obtain ⟨j0, j1, j2⟩ := HP2.out.2.below T2.out.base HP2.out.2.2.2
        obtain ⟨o0, o1, o2⟩ := T2.out.cells
        obtain ⟨⟨q0, q1, q2⟩, z0, z1, _⟩ := A2.out.later T2.out.base
        have LE : (jnE xs xs' mo xs'.length).length = xs.length + xs'.length := jnE_len _ _ _ _
        have LH : (jnH ys ys' xs'.length).length = ys.length + xs'.length := jnH_len _ _ _
        cases v with
        | false =>
          have G := spec_l02Give_bad ae ah ce ch (jnE xs xs' mo xs'.length) (jnH ys ys' xs'.length) wr T2.out.fsE T2.out.fsH (by have := HL.out.1.1; have := HL.out.2.1; omega) (by have := HL.out.1.1; have := HL.out.2.1; have := HL.out.1.2.1; omega) HV.out.1
          rw [LE, LH] at G
          have GG := Lib.hid G
          clear G LE LH
          go_wp2_with fail
          refine GG.out.mono ?_
          rintro _ w6 ⟨rfl, hB⟩
          have A3 := Lib.hid ((A2.out.later T2.out.base).later hB)
          clear hB GG q0 q1 q2 z0 z1 j0 j1 j2 o0 o1 o2
          obtain ⟨⟨q0, q1, q2⟩, z0, z1, _⟩ := A3.out
          go_wp2
          refine bodyPost_ret (v := .tuple #[.agg #[.slice none 0 0, .slice none 0 0], .bool false]) (by simp [results, Try.results41, go_sem, q0, q1]) rfl ?_
          rw [HV.out.2.1, HV.out.2.2]
          exact A3.out.nil _ _
        | true =>
          have G := spec_l02Give_good ae ah ce ch (jnE xs xs' mo xs'.length) (jnH ys ys' xs'.length) wr T2.out.fsE T2.out.fsH (by have := HL.out.1.1; have := HL.out.2.1; omega) (by have := HL.out.1.1; have := HL.out.2.1; have := HL.out.1.2.1; omega) HV.out.1
          rw [LE, LH] at G
          have GG := Lib.hid G
          clear G LE LH
          go_wp2_with fail
          refine GG.out.mono ?_
          rintro _ w6 ⟨rfl, hB⟩
          have T4 := Lib.hid (T2.out.later hB)
          clear hB GG q0 q1 q2 z0 z1 j0 j1 j2 o0 o1 o2 T2
          obtain ⟨⟨q0, q1, q2⟩, z0, z1, _⟩ := A2.out.later T4.out.base
          go_wp2
          refine bodyPost_ret (v := .tuple #[.agg #[.slice ae (xs.length + xs'.length) ce, .slice ah (ys.length + xs'.length) ch], .bool true]) (by simp [results, Try.results41, go_sem, q0, q1]) rfl ?_
          rw [HV.out.2.1, HV.out.2.2]
          exact jn_end A2.out T4.out
end Go.Proofs.Ytkdojogjalkddaa
