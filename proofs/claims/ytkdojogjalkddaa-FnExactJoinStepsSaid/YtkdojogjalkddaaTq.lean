/- TurnSteps of the program. -/
import Derived.Test.YtkdojogjalkddaaRv
namespace Go.Proofs.Ytkdojogjalkddaa
set_option maxRecDepth 100000
set_option linter.unusedVariables false
open Go.RowKit

theorem res_frozen (w : World) (A : Array Value) (T U : TypeId) (C : Array Value) (i : Nat) : ((w.alloc (.cells A T)).alloc (.cells C U)).frozen? ⟨w.heap.size + 1, i, none⟩ = false := World.frozen?_alloc_at _ _ _ _ (by simp)

set_option maxHeartbeats 2000000 in
theorem impl_checkedSteps_good (a b : Option Addr) (c d : Nat) (xs ys : List Nat) (w : World) (hs : Fs w a xs) (ht : Fs w b ys) (hl : xs.length ≤ 1048576) (hl2 : ys.length ≤ 1048576) (hv : vsB xs ys = true) :
    Calls Try.prog 38 #[.agg #[.slice a xs.length c, .slice b ys.length d]] w (RetVB (.tuple #[.agg #[.slice a xs.length c, .slice b ys.length d], .bool true]) w) := by
  have HS := Lib.hid (And.intro hs ht)
  have HV := Lib.hid hv
  have K0 := Lib.hid (two_new w (.slice a xs.length c) (.slice b ys.length d) (.slice none 0 0) (.slice none 0 0) 27 27)
  have Z0 := Lib.hid (And.intro (res_frozen w #[.slice a xs.length c, .slice b ys.length d] 27 27 #[.slice none 0 0, .slice none 0 0] 0) (res_frozen w #[.slice a xs.length c, .slice b ys.length d] 27 27 #[.slice none 0 0, .slice none 0 0] 1))
  clear hs ht hv
  go_enter Try.func38, Try.ntmps38
  go_wp2_with fail
  refine (impl_ValidSteps a b c d xs ys _ (K0.out.fs HS.out.1) (K0.out.fs HS.out.2) hl hl2).mono ?_
  rw [HV.out]
  rintro _ w1 ⟨rfl, hB⟩
  have K1 := Lib.hid (K0.out.below hB)
  have z0 : w1.frozen? ⟨w.heap.size + 1, 0, none⟩ = false := (hB.frozen (p := ⟨w.heap.size + 1, 0, none⟩) (by simp)).trans Z0.out.1
  have z1 : w1.frozen? ⟨w.heap.size + 1, 1, none⟩ = false := (hB.frozen (p := ⟨w.heap.size + 1, 1, none⟩) (by simp)).trans Z0.out.2
  clear hB K0 Z0
  obtain ⟨k0, k1, k2⟩ := K1.out.nth 1 rfl
  obtain ⟨q0, q1, q2⟩ := K1.out.nth 0 rfl
  go_wp2
  refine bodyPost_ret (v := .tuple #[.agg #[.slice a xs.length c, .slice b ys.length d], .bool true]) (by simp [results, Try.results38, go_sem, q0, q1]) rfl ?_
  exact ⟨rfl, (K1.out.base.setCell (by show _ ≤ w.heap.size + 1; omega) _).setCell (by show _ ≤ w.heap.size + 1; omega) _⟩

set_option maxHeartbeats 2000000 in
theorem impl_checkedSteps_bad (a b : Option Addr) (c d : Nat) (xs ys : List Nat) (w : World) (hs : Fs w a xs) (ht : Fs w b ys) (hl : xs.length ≤ 1048576) (hl2 : ys.length ≤ 1048576) (hv : vsB xs ys = false) :
    Calls Try.prog 38 #[.agg #[.slice a xs.length c, .slice b ys.length d]] w (RetVB (.tuple #[.agg #[.slice none 0 0, .slice none 0 0], .bool false]) w) := by
  have HS := Lib.hid (And.intro hs ht)
  have HV := Lib.hid hv
  have K0 := Lib.hid (two_new w (.slice a xs.length c) (.slice b ys.length d) (.slice none 0 0) (.slice none 0 0) 27 27)
  have Z0 := Lib.hid (And.intro (res_frozen w #[.slice a xs.length c, .slice b ys.length d] 27 27 #[.slice none 0 0, .slice none 0 0] 0) (res_frozen w #[.slice a xs.length c, .slice b ys.length d] 27 27 #[.slice none 0 0, .slice none 0 0] 1))
  clear hs ht hv
  go_enter Try.func38, Try.ntmps38
  go_wp2_with fail
  refine (impl_ValidSteps a b c d xs ys _ (K0.out.fs HS.out.1) (K0.out.fs HS.out.2) hl hl2).mono ?_
  rw [HV.out]
  rintro _ w1 ⟨rfl, hB⟩
  have K1 := Lib.hid (K0.out.below hB)
  have z0 : w1.frozen? ⟨w.heap.size + 1, 0, none⟩ = false := (hB.frozen (p := ⟨w.heap.size + 1, 0, none⟩) (by simp)).trans Z0.out.1
  have z1 : w1.frozen? ⟨w.heap.size + 1, 1, none⟩ = false := (hB.frozen (p := ⟨w.heap.size + 1, 1, none⟩) (by simp)).trans Z0.out.2
  clear hB K0 Z0
  obtain ⟨k0, k1, k2⟩ := K1.out.nth 1 rfl
  obtain ⟨q0, q1, q2⟩ := K1.out.nth 0 rfl
  go_wp2
  refine bodyPost_ret (v := .tuple #[.agg #[.slice none 0 0, .slice none 0 0], .bool false]) (by simp [results, Try.results38, go_sem, q0, q1]) rfl ?_
  exact ⟨rfl, (K1.out.base.setCell (by show _ ≤ w.heap.size + 1; omega) _).setCell (by show _ ≤ w.heap.size + 1; omega) _⟩

theorem RetSt.nil (w w' : World) (h : Below w.heap.size w w') : RetSt [] [] false w (.returned (.tuple #[.agg #[.slice none 0 0, .slice none 0 0], .bool false])) w' :=
  ⟨.slice none 0 0, .slice none 0 0, rfl, Ow_nil _ _, Ow_nil _ _, by simp [Value.ownBlock], h⟩

set_option maxHeartbeats 2000000 in
theorem spec_TurnSteps_bad (a b : Option Addr) (c d : Nat) (xs ys : List Nat) (w : World) (hs : Fs w a xs) (ht : Fs w b ys) (hl : xs.length ≤ 1048576) (hl2 : ys.length ≤ 1048576) (hv : vsB xs ys = false) :
    Calls Try.prog 18 #[.agg #[.slice a xs.length c, .slice b ys.length d]] w (RetSt [] [] false w) := by
  have HS := Lib.hid (And.intro hs ht)
  have HV := Lib.hid hv
  have K0 := Lib.hid (two_new w (.slice a xs.length c) (.slice b ys.length d) (.slice none 0 0) (.slice none 0 0) 27 27)
  have Z0 := Lib.hid (And.intro (res_frozen w #[.slice a xs.length c, .slice b ys.length d] 27 27 #[.slice none 0 0, .slice none 0 0] 0) (res_frozen w #[.slice a xs.length c, .slice b ys.length d] 27 27 #[.slice none 0 0, .slice none 0 0] 1))
  clear hs ht hv
  go_enter Try.func18, Try.ntmps18
  go_wp2_with fail
  refine (spec_l02Is w.heap.size a b c d xs ys _ (K0.out.nth 1 rfl).1 (K0.out.nth 1 rfl).2.1 (K0.out.fs HS.out.1) (K0.out.fs HS.out.2) hl hl2).mono ?_
  rw [HV.out]
  rintro _ _ ⟨n1, rfl, rfl⟩
  generalize hWB : World.drewN _ n1 = wB
  have K1 := Lib.hid (show Kp w _ [] wB by rw [← hWB]; exact K0.out.drewN n1)
  have z0 : wB.frozen? ⟨w.heap.size + 1, 0, none⟩ = false := by rw [← hWB]; exact Z0.out.1
  have z1 : wB.frozen? ⟨w.heap.size + 1, 1, none⟩ = false := by rw [← hWB]; exact Z0.out.2
  clear hWB K0 Z0
  obtain ⟨q0, q1, q2⟩ := K1.out.nth 0 rfl
  go_wp2
  refine bodyPost_ret (v := .tuple #[.agg #[.slice none 0 0, .slice none 0 0], .bool false]) (by simp [results, Try.results18, go_sem, q0, q1]) rfl ?_
  exact RetSt.nil _ _ ((K1.out.base.setCell (by show _ ≤ w.heap.size + 1; omega) _).setCell (by show _ ≤ w.heap.size + 1; omega) _)

set_option maxHeartbeats 2000000 in
theorem impl_TurnSteps_bad (a b : Option Addr) (c d : Nat) (xs ys : List Nat) (w : World) (hs : Fs w a xs) (ht : Fs w b ys) (hl : xs.length ≤ 1048576) (hl2 : ys.length ≤ 1048576) (hv : vsB xs ys = false) :
    Calls Try.prog 19 #[.agg #[.slice a xs.length c, .slice b ys.length d]] w (RetSt [] [] false w) := by
  have HS := Lib.hid (And.intro hs ht)
  have HV := Lib.hid hv
  have K0 := Lib.hid (two_new w (.slice a xs.length c) (.slice b ys.length d) (.slice none 0 0) (.slice none 0 0) 27 27)
  have Z0 := Lib.hid (And.intro (res_frozen w #[.slice a xs.length c, .slice b ys.length d] 27 27 #[.slice none 0 0, .slice none 0 0] 0) (res_frozen w #[.slice a xs.length c, .slice b ys.length d] 27 27 #[.slice none 0 0, .slice none 0 0] 1))
  clear hs ht hv
  go_enter Try.func19, Try.ntmps19
  go_wp2_with fail
  refine (impl_ValidSteps a b c d xs ys _ (K0.out.fs HS.out.1) (K0.out.fs HS.out.2) hl hl2).mono ?_
  rw [HV.out]
  rintro _ w1 ⟨rfl, hB⟩
  have K1 := Lib.hid (K0.out.below hB)
  have z0 : w1.frozen? ⟨w.heap.size + 1, 0, none⟩ = false := (hB.frozen (p := ⟨w.heap.size + 1, 0, none⟩) (by simp)).trans Z0.out.1
  have z1 : w1.frozen? ⟨w.heap.size + 1, 1, none⟩ = false := (hB.frozen (p := ⟨w.heap.size + 1, 1, none⟩) (by simp)).trans Z0.out.2
  clear hB K0 Z0
  obtain ⟨q0, q1, q2⟩ := K1.out.nth 0 rfl
  go_wp2
  refine bodyPost_ret (v := .tuple #[.agg #[.slice none 0 0, .slice none 0 0], .bool false]) (by simp [results, Try.results19, go_sem, q0, q1]) rfl ?_
  exact RetSt.nil _ _ ((K1.out.base.setCell (by show _ ≤ w.heap.size + 1; omega) _).setCell (by show _ ≤ w.heap.size + 1; omega) _)

/-- where the program begins to turn -/
theorem tq_start {w1 w2 w3 : World} {g1 c1 : Nat} {ys : List Nat} (h1 : w1.heap.size ≤ g1) (hO : Ow w2 w1.heap.size (.slice (some ⟨g1, 0, none⟩) ys.length c1) ys) (hB : Below w1.heap.size w1 w2)
    (hO3 : Ow w3 w1.heap.size (.slice (some ⟨g1, 0, none⟩) ys.length c1) (tsH ys ys.length)) (hG : (w2.alloc (.cells #[.slice none 0 0, .slice (some ⟨g1, 0, none⟩) ys.length c1] 27)).grownBy w3 (some g1)) :
    Tt w1 w3 w2.heap.size (.slice none 0 0) [] (.slice (some ⟨g1, 0, none⟩) ys.length c1) (tsH ys ys.length) := by
  have hlt := (hO.lt (k := g1) rfl).2
  have hz : (w2.alloc (.cells #[.slice none 0 0, .slice (some ⟨g1, 0, none⟩) ys.length c1] 27)).heap.size = w2.heap.size + 1 := by simp
  have hb : w3.heap[w2.heap.size]? = _ := hG.block w2.heap.size (by omega) (by simp; omega)
  have hnew := Bk.new w2 (.slice none 0 0) (.slice (some ⟨g1, 0, none⟩) ys.length c1) 27
  have hfr : ∀ i, (w2.alloc (.cells #[.slice none 0 0, .slice (some ⟨g1, 0, none⟩) ys.length c1] 27)).frozen? ⟨w2.heap.size, i, none⟩ = false := fun i => World.frozen?_alloc_at _ _ _ _ rfl
  refine ⟨(hB.alloc hB.size _).grown hG (by have := hB.size; omega) (fun k hk => by injection hk with hk; omega), hB.size, ⟨(World.cell?_of_block (a := ⟨w2.heap.size, 0, none⟩) hb).trans hnew.1, (World.cell?_of_block (a := ⟨w2.heap.size, 1, none⟩) hb).trans hnew.2.1, by have := hG.size; omega⟩,
    (World.frozen?_of_block (a := ⟨w2.heap.size, 0, none⟩) hb).trans (hfr 0), (World.frozen?_of_block (a := ⟨w2.heap.size, 1, none⟩) hb).trans (hfr 1), Ow_nil _ _, hO3, by simp [Value.ownBlock], by simp [Value.ownBlock]; omega, by simp [Value.ownBlock]⟩

theorem Ow.below2 {w w' : World} {b : Nat} {v : Value} {xs : List Nat} (h : Ow w b v xs) (hB : Below w.heap.size w w') : Ow w' b v xs := by
  refine ⟨h.1, ?_⟩
  rcases h.2 with q | ⟨g, c, cur, e, h1, h2, r⟩
  · exact .inl q
  · exact .inr ⟨g, c, cur, e, h1, by rw [hB.block g (Array.getElem?_eq_some_iff.1 h2).1]; exact h2, r⟩
theorem Tt.fsE {w0 w : World} {o n c : Nat} {a : Option Addr} {vh : Value} {es hs : List Nat} (h : Tt w0 w o (.slice a n c) es vh hs) : Fs w a es := Ow.Fs' h.2.2.2.2.2.1
theorem Tt.fsH {w0 w : World} {o n c : Nat} {a : Option Addr} {ve : Value} {es hs : List Nat} (h : Tt w0 w o ve es (.slice a n c) hs) : Fs w a hs := Ow.Fs' h.2.2.2.2.2.2.1
theorem Tt.later {w0 w w' : World} {o : Nat} {ve vh : Value} {es hs : List Nat} (h : Tt w0 w o ve es vh hs) (hB : Below w.heap.size w w') : Tt w0 w' o ve es vh hs := by
  obtain ⟨h1, h2, h3, h4, h5, h6, h7, h8⟩ := h
  exact ⟨h1.trans (hB.mono h1.size), h2, h3.below hB h3.2.2, (hB.frozen (p := ⟨o, 0, none⟩) h3.2.2).trans h4, (hB.frozen (p := ⟨o, 1, none⟩) h3.2.2).trans h5, h6.below2 hB, h7.below2 hB, h8⟩

set_option maxHeartbeats 4000000 in
theorem impl_TurnSteps_good (a b : Option Addr) (c d : Nat) (xs ys : List Nat) (w : World) (hs : Fs w a xs) (ht : Fs w b ys) (hl : xs.length ≤ 1048576) (hl2 : ys.length ≤ 1048576) (hw : ∀ j, j < xs.length → xs.getD j 0 < 4294967296) (hv : vsB xs ys = true) :
    Calls Try.prog 19 #[.agg #[.slice a xs.length c, .slice b ys.length d]] w (RetSt (tsE xs xs.length) (tsH ys ys.length) true w) := by
  have HS := Lib.hid (And.intro hs ht)
  have HV := Lib.hid hv
  have HL := Lib.hid (vsB_ok hv)
  have HW := Lib.hid hw
  have HT := Lib.hid (turned_ok hv hw)
  have K0 := Lib.hid (two_new w (.slice a xs.length c) (.slice b ys.length d) (.slice none 0 0) (.slice none 0 0) 27 27)
  have Z0 := Lib.hid (And.intro (res_frozen w #[.slice a xs.length c, .slice b ys.length d] 27 27 #[.slice none 0 0, .slice none 0 0] 0) (res_frozen w #[.slice a xs.length c, .slice b ys.length d] 27 27 #[.slice none 0 0, .slice none 0 0] 1))
  clear hs ht hv hw
  have hy0 : ys ≠ [] := by intro q; have := HL.out.2.1; rw [q] at this; simp at this
  go_enter Try.func19, Try.ntmps19
  go_wp2_with fail
  refine (impl_ValidSteps a b c d xs ys _ (K0.out.fs HS.out.1) (K0.out.fs HS.out.2) hl hl2).mono ?_
  rw [HV.out]
  rintro _ w1 ⟨rfl, hB⟩
  have K1 := Lib.hid (K0.out.below hB)
  have Z1 := Lib.hid (And.intro ((hB.frozen (p := ⟨w.heap.size + 1, 0, none⟩) (by simp)).trans Z0.out.1) ((hB.frozen (p := ⟨w.heap.size + 1, 1, none⟩) (by simp)).trans Z0.out.2))
  clear hB K0 Z0
  obtain ⟨k0, k1, k2⟩ := K1.out.nth 1 rfl
  go_wp2_with fail
  refine (slices_Clone b d ys _ (K1.out.fs HS.out.2) hy0 (by omega)).mono ?_
  rintro _ w2 ⟨g1, c1, rfl, hg1, hO2, hB2⟩
  have A2 := Lib.hid (And.intro hg1 (And.intro hO2 hB2))
  clear hg1 hO2 hB2 k0 k1
  go_wp2_with fail
  refine (slices_Reverse g1 c1 w1.heap.size ys _ (A2.out.2.1.alloc _) (by omega)).mono ?_
  rintro _ w3 ⟨rfl, hO3, hG3⟩
  have T3 := Lib.hid (tq_start A2.out.1 A2.out.2.1 A2.out.2.2 hO3 hG3)
  clear hO3 hG3 A2
  obtain ⟨k0, k1, k3⟩ := (K1.out.below T3.out.base).nth 1 rfl
  go_wp2
  clear k0 k1 k3
  go_loopw [5] (fun i wr => ∃ (t : Nat) (ae : Option Addr) (ce : Nat), t ≤ xs.length ∧ i = .int .i64 ((t : Int) - 1) ∧ Hid (Tt w1 wr w2.heap.size (.slice ae (xs.length - t) ce) (tsE xs (xs.length - t)) (.slice (some ⟨g1, 0, none⟩) ys.length c1) (tsH ys ys.length))) (fun i _ => (intOf i + 1).toNat)
  case atStart => exact ⟨xs.length, none, 0, Nat.le_refl _, rfl, Lib.hid (by rw [Nat.sub_self]; exact T3.out)⟩
  case round =>
    clear T3
    obtain ⟨t, ae, ce, ht, rfl, hT⟩ := hrel
    by_cases h0 : 0 < t
    · obtain ⟨k0, k1, k3⟩ := (K1.out.below hT.out.base).nth 1 rfl
      obtain ⟨o0, o1, o2⟩ := hT.out.cells
      obtain ⟨b1, off1, rfl, _, hc1⟩ := ((K1.out.below hT.out.base).fs HS.out.1).at (k := t - 1) (by omega)
      have r1 := hc1 (t - 1) (by omega)
      clear hc1
      have hx := HW.out (t - 1) (by omega)
      have hneg := fun ty w' => run_neg hx (fin_at HL.out.2.2.1 (j := t - 1) (by omega)) ty w'
      obtain ⟨g2, c2, w4, hrun, p0, f0, hT2⟩ := hT.out.pushE (ngE (xs.getD (t - 1) 0)) (by rw [tsE_len]; omega)
      rw [tsE_len] at hrun hT2
      have T2 := Lib.hid (show Tt w1 (w4.setCell ⟨w2.heap.size, 0, none⟩ (.slice (some ⟨g2, 0, none⟩) (xs.length - t + 1) c2)) w2.heap.size (.slice (some ⟨g2, 0, none⟩) (xs.length - (t - 1)) c2) (tsE xs (xs.length - (t - 1))) (.slice (some ⟨g1, 0, none⟩) ys.length c1) (tsH ys ys.length) by
        rw [show xs.length - (t - 1) = xs.length - t + 1 by omega, tsE_snoc, show xs.length - 1 - (xs.length - t) = t - 1 by omega]
        exact hT2)
      clear hT2
      generalize ngE (xs.getD (t - 1) 0) = nx at hneg hrun
      generalize xs.getD (t - 1) 0 = x at r1 hx hneg
      have s1 : (0 : Int) ≤ (t : Int) - 1 := by omega
      have s2 : (t : Int) - 1 < (xs.length : Int) := by omega
      have s3 : ((t : Int) - 1).toNat = t - 1 := by omega
      go_upto_region 8 with fail
      go_region_law (refine step_append_run rfl (.tmp 26) (.tmp 33) 22 (by rfl) _ _ (by rfl) (by rfl) _ _ hrun ?_)
      all_goals
        generalize World.setCell w4 ⟨w2.heap.size, 0, none⟩ (.slice (some ⟨g2, 0, none⟩) (xs.length - t + 1) c2) = W2 at T2 ⊢
        clear hrun p0 f0 hneg r1 k0 k1 o0 o1
        go_wp2
        go_roundw
        case rel => exact ⟨t - 1, some ⟨g2, 0, none⟩, c2, by omega, vint2 (by omega), T2⟩
        case measure => simp [intOf]; omega
    · obtain rfl : t = 0 := by omega
      rw [show ((0 : Nat) : Int) - 1 = -1 from rfl]
      have T2 := Lib.hid (show Tt w1 wr w2.heap.size (.slice ae xs.length ce) (tsE xs xs.length) (.slice (some ⟨g1, 0, none⟩) ys.length c1) (tsH ys ys.length) from hT.out)
      clear hT
      obtain ⟨o0, o1, o2⟩ := T2.out.cells
      have C := impl_checkedSteps_good ae (some ⟨g1, 0, none⟩) ce c1 (tsE xs xs.length) (tsH ys ys.length) wr
      rw [tsE_len, tsH_len] at C
      have CC := Lib.hid (C T2.out.fsE T2.out.fsH hl hl2 HT.out)
      clear C
      go_wp2_with fail
      refine CC.out.mono ?_
      rintro _ w5 ⟨rfl, hB⟩
      have T5 := Lib.hid (T2.out.later hB)
      clear hB T2 CC
      have hlt : w.heap.size + 1 < w1.heap.size := (K1.out.nth 0 rfl).2.2
      obtain ⟨q0, q1, q2⟩ := (K1.out.below T5.out.base).nth 0 rfl
      have z0 : w5.frozen? ⟨w.heap.size + 1, 0, none⟩ = false := (T5.out.base.frozen (p := ⟨w.heap.size + 1, 0, none⟩) hlt).trans Z1.out.1
      have z1 : w5.frozen? ⟨w.heap.size + 1, 1, none⟩ = false := (T5.out.base.frozen (p := ⟨w.heap.size + 1, 1, none⟩) hlt).trans Z1.out.2
      go_wp2
      refine bodyPost_ret (v := .tuple #[.agg #[.slice ae xs.length ce, .slice (some ⟨g1, 0, none⟩) ys.length c1], .bool true]) (by simp [results, Try.results19, go_sem, q0, q1]) rfl ?_
      exact st_end K1.out.base hlt T5.out (by omega)
end Go.Proofs.Ytkdojogjalkddaa
