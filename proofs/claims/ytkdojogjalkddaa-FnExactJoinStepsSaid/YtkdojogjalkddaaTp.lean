/- TurnSteps of the reference. -/
import Derived.Test.YtkdojogjalkddaaTu
namespace Go.Proofs.Ytkdojogjalkddaa
set_option maxRecDepth 100000
set_option linter.unusedVariables false
open Go.RowKit

theorem run_neg {x : Nat} (hx : x < 4294967296) (h : isFin (cn .f32 x) = true) (t : TypeId) (w : World) : (binOp .sub t (.float .f32 0) (.float .f32 x)).run Try.prog w = .ok (.float .f32 (ngE x)) w :=
  run_float_arith w .sub t .f32 _ _ _ (ng_is hx h).1
theorem Tt_start (w : World) : Tt w (w.alloc (.cells #[.slice none 0 0, .slice none 0 0] 27)) w.heap.size (.slice none 0 0) [] (.slice none 0 0) [] :=
  ⟨below1 w _, Nat.le_refl _, Bk.new w _ _ _, World.frozen?_alloc_at _ _ _ _ rfl, World.frozen?_alloc_at _ _ _ _ rfl, Ow_nil _ _, Ow_nil _ _, by simp [Value.ownBlock], by simp [Value.ownBlock], by simp [Value.ownBlock]⟩
theorem Tt.cells {w0 w : World} {o : Nat} {ve vh : Value} {es hs : List Nat} (h : Tt w0 w o ve es vh hs) : Bk w o ve vh := h.2.2.1
theorem vint2 {a b : Int} (h : a = b) : Value.int .i64 a = Value.int .i64 b := by rw [h]

/-- the result is laid -/
theorem st_end {w wB wr : World} {o r : Nat} {ve vh : Value} {es hs : List Nat} (hB : Below w.heap.size w wB) (hr : r < wB.heap.size) (hT : Tt wB wr o ve es vh hs) (hr0 : w.heap.size ≤ r) :
    RetSt es hs true w (.returned (.tuple #[.agg #[ve, vh], .bool true])) ((wr.setCell ⟨r, 0, none⟩ ve).setCell ⟨r, 1, none⟩ vh) := by
  obtain ⟨h1, h2, h3, h4, h5, h6, h7, h8, h9, h10⟩ := hT
  have ne : ∀ v l, Ow wr wB.heap.size v l → Ow ((wr.setCell ⟨r, 0, none⟩ ve).setCell ⟨r, 1, none⟩ vh) w.heap.size v l := by
    intro v l h
    have hb : v.ownBlock ≠ some r := fun q => by have := (h.lt q).1; omega
    exact ((h.kept (grownBy_set wr r 0 ve) (.inr hb)).kept (grownBy_set _ r 1 vh) (.inr hb)).base (fun k hk => Nat.le_trans hB.size (h.lt hk).1)
  exact ⟨ve, vh, rfl, ne _ _ h6, ne _ _ h7, h10, ((hB.trans (h1.mono hB.size)).setCell hr0 _).setCell hr0 _⟩
set_option maxHeartbeats 4000000 in
theorem spec_TurnSteps_good (a b : Option Addr) (c d : Nat) (xs ys : List Nat) (w : World) (hs : Fs w a xs) (ht : Fs w b ys) (hl : xs.length ≤ 1048576) (hl2 : ys.length ≤ 1048576) (hw : ∀ j, j < xs.length → xs.getD j 0 < 4294967296) (hv : vsB xs ys = true) :
    Calls Try.prog 18 #[.agg #[.slice a xs.length c, .slice b ys.length d]] w (RetSt (tsE xs xs.length) (tsH ys ys.length) true w) := by
  have HS := Lib.hid (And.intro hs ht)
  have HV := Lib.hid hv
  have HL := Lib.hid (vsB_ok hv)
  have HW := Lib.hid hw
  have K0 := Lib.hid (two_new w (.slice a xs.length c) (.slice b ys.length d) (.slice none 0 0) (.slice none 0 0) 27 27)
  have Z0 := Lib.hid (show ((w.alloc (.cells #[.slice a xs.length c, .slice b ys.length d] 27)).alloc (.cells #[.slice none 0 0, .slice none 0 0] 27)).frozen? ⟨w.heap.size + 1, 0, none⟩ = false ∧ ((w.alloc (.cells #[.slice a xs.length c, .slice b ys.length d] 27)).alloc (.cells #[.slice none 0 0, .slice none 0 0] 27)).frozen? ⟨w.heap.size + 1, 1, none⟩ = false from ⟨World.frozen?_alloc_at _ _ _ _ (by simp), World.frozen?_alloc_at _ _ _ _ (by simp)⟩)
  clear hs ht hv hw
  go_enter Try.func18, Try.ntmps18
  go_wp2_with fail
  refine (spec_l02Is w.heap.size a b c d xs ys _ (K0.out.nth 1 rfl).1 (K0.out.nth 1 rfl).2.1 (K0.out.fs HS.out.1) (K0.out.fs HS.out.2) hl hl2).mono ?_
  rw [HV.out]
  rintro _ _ ⟨n1, rfl, rfl⟩
  generalize hWB : World.drewN _ n1 = wB
  have K1 := Lib.hid (show Kp w _ [] wB by rw [← hWB]; exact K0.out.drewN n1)
  have Z1 := Lib.hid (show wB.frozen? ⟨w.heap.size + 1, 0, none⟩ = false ∧ wB.frozen? ⟨w.heap.size + 1, 1, none⟩ = false by rw [← hWB]; exact Z0.out)
  clear hWB K0 Z0
  obtain ⟨k0, k1, k2⟩ := K1.out.nth 1 rfl
  go_wp2
  clear k0 k1 k2
  go_loopw [5] (fun i wr => ∃ (t : Nat) (ae : Option Addr) (ce : Nat), t ≤ xs.length ∧ i = .int .i64 ((t : Int) - 1) ∧ Hid (Tt wB wr wB.heap.size (.slice ae (xs.length - t) ce) (tsE xs (xs.length - t)) (.slice none 0 0) [])) (fun i _ => (intOf i + 1).toNat)
  case atStart => exact ⟨xs.length, none, 0, Nat.le_refl _, rfl, Lib.hid (by rw [Nat.sub_self]; exact Tt_start wB)⟩
  case round =>
    obtain ⟨t, ae, ce, ht, rfl, hT⟩ := hrel
    by_cases h0 : 0 < t
    · obtain ⟨k0, k1, k2⟩ := (K1.out.below hT.out.base).nth 1 rfl
      obtain ⟨o0, o1, o2⟩ := hT.out.cells
      obtain ⟨b1, off1, rfl, _, hc1⟩ := ((K1.out.below hT.out.base).fs HS.out.1).at (k := t - 1) (by omega)
      have r1 := hc1 (t - 1) (by omega)
      clear hc1
      have hx := HW.out (t - 1) (by omega)
      have hneg := fun ty w' => run_neg hx (fin_at HL.out.2.2.1 (j := t - 1) (by omega)) ty w'
      obtain ⟨g2, c2, w2, hrun, p0, f0, hT2⟩ := hT.out.pushE (ngE (xs.getD (t - 1) 0)) (by rw [tsE_len]; omega)
      rw [tsE_len] at hrun hT2
      have T2 := Lib.hid (show Tt wB (w2.setCell ⟨wB.heap.size, 0, none⟩ (.slice (some ⟨g2, 0, none⟩) (xs.length - t + 1) c2)) wB.heap.size (.slice (some ⟨g2, 0, none⟩) (xs.length - (t - 1)) c2) (tsE xs (xs.length - (t - 1))) (.slice none 0 0) [] by
        rw [show xs.length - (t - 1) = xs.length - t + 1 by omega, tsE_snoc, show xs.length - 1 - (xs.length - t) = t - 1 by omega]
        exact hT2)
      clear hT2
      generalize ngE (xs.getD (t - 1) 0) = nx at hneg hrun
      generalize xs.getD (t - 1) 0 = x at r1 hx hneg
      have s1 : (0 : Int) ≤ (t : Int) - 1 := by omega
      have s2 : (t : Int) - 1 < (xs.length : Int) := by omega
      have s3 : ((t : Int) - 1).toNat = t - 1 := by omega
      go_upto_region 7 with fail
      go_region_law (refine step_append_run rfl (.tmp 20) (.tmp 27) 22 (by rfl) _ _ (by rfl) (by rfl) _ _ hrun ?_)
      all_goals
        generalize World.setCell w2 ⟨wB.heap.size, 0, none⟩ (.slice (some ⟨g2, 0, none⟩) (xs.length - t + 1) c2) = W2 at T2 ⊢
        clear hrun p0 f0 hneg r1 k0 k1 o0 o1
        go_wp2
        go_roundw
        case rel => exact ⟨t - 1, some ⟨g2, 0, none⟩, c2, by omega, vint2 (by omega), T2⟩
        case measure => simp [intOf]; omega
    · obtain rfl : t = 0 := by omega
      rw [show ((0 : Nat) : Int) - 1 = -1 from rfl]
      obtain ⟨k0, k1, k2⟩ := (K1.out.below hT.out.base).nth 1 rfl
      go_wp2
      clear k0 k1 k2
      go_loopw [6] (fun i wr => ∃ (t : Nat) (ah : Option Addr) (ch : Nat), t ≤ ys.length ∧ i = .int .i64 ((t : Int) - 1) ∧ Hid (Tt wB wr wB.heap.size (.slice ae (xs.length - 0) ce) (tsE xs (xs.length - 0)) (.slice ah (ys.length - t) ch) (tsH ys (ys.length - t)))) (fun i _ => (intOf i + 1).toNat)
      case atStart => exact ⟨ys.length, none, 0, Nat.le_refl _, rfl, Lib.hid (by rw [Nat.sub_self]; exact hT.out)⟩
      case round =>
        clear hT ht h0
        obtain ⟨t, ah, ch, ht, rfl, hT⟩ := hrel
        by_cases h0 : 0 < t
        · obtain ⟨k0, k1, k2⟩ := (K1.out.below hT.out.base).nth 1 rfl
          obtain ⟨o0, o1, o2⟩ := hT.out.cells
          obtain ⟨b1, off1, rfl, _, hc1⟩ := ((K1.out.below hT.out.base).fs HS.out.2).at (k := t - 1) (by omega)
          have r1 := hc1 (t - 1) (by omega)
          clear hc1
          obtain ⟨g2, c2, w2, hrun, p0, f0, hT2⟩ := hT.out.pushH (ys.getD (t - 1) 0) (by rw [tsH_len]; omega)
          rw [tsH_len] at hrun hT2
          have T2 := Lib.hid (show Tt wB (w2.setCell ⟨wB.heap.size, 1, none⟩ (.slice (some ⟨g2, 0, none⟩) (ys.length - t + 1) c2)) wB.heap.size (.slice ae (xs.length - 0) ce) (tsE xs (xs.length - 0)) (.slice (some ⟨g2, 0, none⟩) (ys.length - (t - 1)) c2) (tsH ys (ys.length - (t - 1))) by
            rw [show ys.length - (t - 1) = ys.length - t + 1 by omega, tsH_snoc, show ys.length - 1 - (ys.length - t) = t - 1 by omega]
            exact hT2)
          clear hT2
          generalize ys.getD (t - 1) 0 = x at r1 hrun
          have s1 : (0 : Int) ≤ (t : Int) - 1 := by omega
          have s2 : (t : Int) - 1 < (ys.length : Int) := by omega
          have s3 : ((t : Int) - 1).toNat = t - 1 := by omega
          go_upto_region 11 with fail
          go_region_law (refine step_append_run rfl (.tmp 39) (.tmp 45) 22 (by rfl) _ _ (by rfl) (by rfl) _ _ hrun ?_)
          all_goals
            generalize World.setCell w2 ⟨wB.heap.size, 1, none⟩ (.slice (some ⟨g2, 0, none⟩) (ys.length - t + 1) c2) = W2 at T2 ⊢
            clear hrun p0 f0 r1 k0 k1 o0 o1
            go_wp2
            go_roundw
            case rel => exact ⟨t - 1, some ⟨g2, 0, none⟩, c2, by omega, vint2 (by omega), T2⟩
            case measure => simp [intOf]; omega
        · obtain rfl : t = 0 := by omega
          rw [show ((0 : Nat) : Int) - 1 = -1 from rfl]
          have T2 := Lib.hid (show Tt wB wr wB.heap.size (.slice ae xs.length ce) (tsE xs xs.length) (.slice ah ys.length ch) (tsH ys ys.length) from hT.out)
          clear hT
          have hlt : w.heap.size + 1 < wB.heap.size := (K1.out.nth 0 rfl).2.2
          obtain ⟨q0, q1, q2⟩ := (K1.out.below T2.out.base).nth 0 rfl
          have z0 : wr.frozen? ⟨w.heap.size + 1, 0, none⟩ = false := (T2.out.base.frozen (p := ⟨w.heap.size + 1, 0, none⟩) hlt).trans Z1.out.1
          have z1 : wr.frozen? ⟨w.heap.size + 1, 1, none⟩ = false := (T2.out.base.frozen (p := ⟨w.heap.size + 1, 1, none⟩) hlt).trans Z1.out.2
          obtain ⟨o0, o1, o2⟩ := T2.out.cells
          go_wp2
          refine bodyPost_ret (v := .tuple #[.agg #[.slice ae xs.length ce, .slice ah ys.length ch], .bool true]) (by simp [results, Try.results18, go_sem, q0, q1]) rfl ?_
          exact st_end K1.out.base hlt T2.out (by omega)
end Go.Proofs.Ytkdojogjalkddaa
