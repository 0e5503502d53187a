/- Complex numbers drawn. -/
import Derived.Test.YtkemghecglbleaaGreatDoorSd
import Derived.Test.YtkemghecglbleaaGreatDoorGx
namespace Go.Proofs.YtkemghecglbleaaGreatDoor
set_option maxRecDepth 100000
set_option linter.unusedVariables false
open Go.RowKit
theorem Tch.pushI {b : Nat} {w wr w4 : World} (h : Tch b w wr) (hB : Below w.heap.size wr w4) : Tch b w w4 := by
  obtain ⟨a1, a2, a3, a4, a5⟩ := h
  exact ⟨hB.os.trans a1, hB.tape.trans a2, hB.output.trans a3, Nat.le_trans a4 hB.size, fun i hi hn => (hB.block i hi).trans (a5 i hi hn)⟩
theorem Oz.tchI {b base : Nat} {w w' : World} {v : Value} {zs : List (Nat × Nat)} (h : Oz w base v zs) (hb : b < base) (ht : Tch b w w') : Oz w' base v zs := by
  refine ⟨h.1, ?_⟩
  rcases h.2 with q | ⟨g, c, cur, e, h1, h2, r⟩
  · exact .inl q
  · exact .inr ⟨g, c, cur, e, h1, by rw [ht.2.2.2.2 g (Array.getElem?_eq_some_iff.1 h2).1 (by omega)]; exact h2, r⟩
def allZ (P : Nat × Nat → Prop) (zs : List (Nat × Nat)) : Prop := ∀ z ∈ zs, P z
theorem allZ.nil (P : Nat × Nat → Prop) : allZ P [] := fun x hx => (by cases hx)
theorem allZ.snoc {P : Nat × Nat → Prop} {zs : List (Nat × Nat)} {z : Nat × Nat} (h : allZ P zs) (hz : P z) : allZ P (zs ++ [z]) := fun y hy => by
  rcases List.mem_append.1 hy with q | q
  · exact h y q
  · rw [List.mem_singleton.1 q]; exact hz
def ltZ (z : Nat × Nat) : Prop := z.1 < 4294967296 ∧ z.2 < 4294967296
def isC32 (v : Value) : Prop := ∃ x y : Nat, x < 4294967296 ∧ y < 4294967296 ∧ v = .complex .f32 x y
set_option maxHeartbeats 1000000 in
theorem draw_complex (b : Nat) (a : Option Addr) (la ca N : Nat) (hN : N ≤ 1500000) (hla : la ≤ 1048576) (w : World) (h : Sc w b a la ca N) (hbs : b < w.heap.size) :
    Calls Tryz.prog 45 #[.pointer (some ⟨b, 0, none⟩)] w (RetSr b a la ca (N + 20) isC32 w) := by
  have C := Lib.hid (draw_float b a la ca N (by omega) hla w h hbs)
  clear h
  go_enter Tryz.func45, Tryz.ntmps45
  go_wp2_with fail
  refine C.out.mono ?_
  rintro _ w1 ⟨_, rfl, ⟨x, hx, rfl⟩, hS, hT⟩
  have T1 := Lib.hid hT
  have C2 := Lib.hid (draw_float b a la ca (N + 10) (by omega) hla w1 hS (hT.lt hbs))
  clear hS hT
  go_wp2_with fail
  refine C2.out.mono ?_
  rintro _ w2 ⟨_, rfl, ⟨y, hy, rfl⟩, hS, hT⟩
  have H := Lib.hid (And.intro hS (T1.out.trans hT))
  clear hS hT
  go_wp2
  go_ret
  exact ⟨_, rfl, ⟨x, y, hx, hy, rfl⟩, H.out.1, H.out.2⟩
set_option maxHeartbeats 1000000 in
theorem draw_fine (b : Nat) (a : Option Addr) (la ca N : Nat) (hN : N ≤ 1500000) (hla : la ≤ 1048576) (w : World) (h : Sc w b a la ca N) (hbs : b < w.heap.size) :
    Calls Tryz.prog 46 #[.pointer (some ⟨b, 0, none⟩)] w (RetSr b a la ca (N + 20) isC32 w) := by
  have C := Lib.hid (src_pick 65 (by omega) (by omega) b a la ca N (by omega) hla w h hbs)
  clear h
  go_enter Tryz.func46, Tryz.ntmps46
  go_wp2_with fail
  refine C.out.mono ?_
  rintro _ w1 ⟨_, rfl, ⟨m, hm, rfl⟩, hS, hT⟩
  have T1 := Lib.hid hT
  have S1 := Lib.hid hS
  have b1 := hT.lt hbs
  clear hS hT C
  go_wp2_with (((first | with_reducible refine up_add _ _ _ _ _ ?_ | with_reducible refine up_sub _ _ _ _ _ ?_ | with_reducible refine up_mul _ _ _ _ _ ?_ | with_reducible refine up_quo _ _ _ _ _ ?_)); intro r nd hr)
  have HX := Lib.hid (fe32_lt hr)
  clear hr
  refine (src_pick 65 (by omega) (by omega) b a la ca (N + 2) (by omega) hla _ (S1.out.drewN _) b1).mono ?_
  rintro _ w2 ⟨_, rfl, ⟨q, hq, rfl⟩, hS, hT⟩
  have H := Lib.hid (And.intro hS ((T1.out.trans (Tch.drewN _ _ _)).trans hT))
  clear hS hT
  go_wp2_with (((first | with_reducible refine up_add _ _ _ _ _ ?_ | with_reducible refine up_sub _ _ _ _ _ ?_ | with_reducible refine up_mul _ _ _ _ _ ?_ | with_reducible refine up_quo _ _ _ _ _ ?_)); intro r nd hr)
  go_ret
  exact ⟨_, rfl, ⟨_, _, HX.out, fe32_lt hr, rfl⟩, H.out.1.mono (by omega), H.out.2.trans (Tch.drewN _ _ _)⟩
set_option maxHeartbeats 4000000 in
theorem draw_complexes (n : Nat) (hn : n ≤ 100) (b : Nat) (a : Option Addr) (la ca N : Nat) (hN : N ≤ 1000) (hla : la ≤ 1048576) (w : World) (h : Sc w b a la ca N) (hbs : b < w.heap.size) :
    Calls Tryz.prog 34 #[.pointer (some ⟨b, 0, none⟩), .int .i64 (n : Nat)] w (fun e w' => ∃ (v : Value) (zs : List (Nat × Nat)), e = .returned v ∧ zs.length = n ∧ allZ ltZ zs ∧ Oz w' w.heap.size v zs ∧ Tch b w w') := by
  have H := Lib.hid h
  have O0 := Lib.hid (Oz_empty w w.heap.size (Nat.le_refl _))
  clear h
  go_enter Tryz.func34, Tryz.ntmps34
  go_wp2_with fail
  refine (src_one 5 (by omega) (by omega) b a la ca N (by omega) hla _ (H.out.alloc hbs _) (by simp; omega)).mono ?_
  rintro _ w1 ⟨_, rfl, ⟨t, rfl⟩, hS, hT⟩
  have S1 := Lib.hid hS
  have T1 := Lib.hid ((Tch.alloc b w _).trans hT)
  have O1 := Lib.hid (O0.out.tchI hbs hT)
  clear hS hT O0
  cases t
  · go_wp2
    go_loopw [1, 5] (fun m v wr => ∃ (j : Nat) (zs : List (Nat × Nat)), j ≤ n ∧ zs.length = j ∧ m = .int .i64 ((n - j : Nat) : Int) ∧ Hid (allZ ltZ zs) ∧ Hid (Oz wr w.heap.size v zs) ∧ Hid (Sc wr b a la ca (N + 2 + 20 * j)) ∧ Hid (Tch b w wr)) (fun m _ _ => (Lib.intOf m).toNat)
    case atStart => exact ⟨0, [], Nat.zero_le _, rfl, rfl, allZ.nil _, O1.out, S1.out, T1.out⟩
    case round =>
      clear O1 S1 T1
      obtain ⟨j, zs, hj, hl, rfl, hA, hO, hS, hT⟩ := hrel
      by_cases hlt : j < n
      · obtain ⟨q, hq⟩ : ∃ q, q = n - j := ⟨_, rfl⟩
        rw [← hq]
        have hq0 : (q : Int) > 0 := by omega
        have hq1 : (q : Int) ≤ 100 := by omega
        have C := Lib.hid (draw_fine b a la ca (N + 2 + 20 * j) (by omega) hla wr hS.out (hT.out.lt hbs))
        have HQ := Lib.hid hq
        clear hq
        go_wp2_with fail
        refine C.out.mono ?_
        rintro _ w2 ⟨_, rfl, ⟨x, y, hx, hy, rfl⟩, hS2, hT2⟩
        obtain ⟨v2, w4, hrun, hO2, hG, _⟩ := run_pushZ w2 w.heap.size _ _ x y (hO.out.tchI hbs hT2) (hT.out.trans hT2).2.2.2.1 (by omega) 25 (a := none) (ws := []) (.inl rfl)
        have H3 := Lib.hid (And.intro hO2 (And.intro ((hS2.kept ((hT.out.trans hT2).lt hbs) (hG.mono (by omega))).mono (show N + 2 + 20 * j + 20 ≤ N + 2 + 20 * (j + 1) by omega)) (And.intro ((hT.out.trans hT2).pushI hG) (hA.out.snoc (z := (x, y)) ⟨hx, hy⟩))))
        clear hO2 hG hS2 hT2 C
        go_wp2_with (at_builtin; refine Lib.wpList_append_run _ rfl (.tmp 20) (.tmp 23) 25 25 rfl _ _ rfl rfl _ _ hrun ?_)
        go_roundw
        case rel =>
          have := HQ.out
          exact ⟨j + 1, zs ++ [(x, y)], by omega, by simp; omega, by rw [show ((n - (j + 1) : Nat) : Int) = (q : Int) - 1 by omega], H3.out.2.2.2, H3.out.1, H3.out.2.1, H3.out.2.2.1⟩
        case measure => simp [Lib.intOf]; omega
      · obtain rfl : j = n := by omega
        rw [Nat.sub_self]
        go_wp2
        go_ret
        exact ⟨_, zs, rfl, hl, hA.out, hO.out, hT.out⟩
  · go_wp2
    go_loopw [1, 5] (fun m v wr => ∃ (j : Nat) (zs : List (Nat × Nat)), j ≤ n ∧ zs.length = j ∧ m = .int .i64 ((n - j : Nat) : Int) ∧ Hid (allZ ltZ zs) ∧ Hid (Oz wr w.heap.size v zs) ∧ Hid (Sc wr b a la ca (N + 2 + 20 * j)) ∧ Hid (Tch b w wr)) (fun m _ _ => (Lib.intOf m).toNat)
    case atStart => exact ⟨0, [], Nat.zero_le _, rfl, rfl, allZ.nil _, O1.out, S1.out, T1.out⟩
    case round =>
      clear O1 S1 T1
      obtain ⟨j, zs, hj, hl, rfl, hA, hO, hS, hT⟩ := hrel
      by_cases hlt : j < n
      · obtain ⟨q, hq⟩ : ∃ q, q = n - j := ⟨_, rfl⟩
        rw [← hq]
        have hq0 : (q : Int) > 0 := by omega
        have hq1 : (q : Int) ≤ 100 := by omega
        have C := Lib.hid (draw_complex b a la ca (N + 2 + 20 * j) (by omega) hla wr hS.out (hT.out.lt hbs))
        have HQ := Lib.hid hq
        clear hq
        go_wp2_with fail
        refine C.out.mono ?_
        rintro _ w2 ⟨_, rfl, ⟨x, y, hx, hy, rfl⟩, hS2, hT2⟩
        obtain ⟨v2, w4, hrun, hO2, hG, _⟩ := run_pushZ w2 w.heap.size _ _ x y (hO.out.tchI hbs hT2) (hT.out.trans hT2).2.2.2.1 (by omega) 25 (a := none) (ws := []) (.inl rfl)
        have H3 := Lib.hid (And.intro hO2 (And.intro ((hS2.kept ((hT.out.trans hT2).lt hbs) (hG.mono (by omega))).mono (show N + 2 + 20 * j + 20 ≤ N + 2 + 20 * (j + 1) by omega)) (And.intro ((hT.out.trans hT2).pushI hG) (hA.out.snoc (z := (x, y)) ⟨hx, hy⟩))))
        clear hO2 hG hS2 hT2 C
        go_wp2_with (at_builtin; refine Lib.wpList_append_run _ rfl (.tmp 15) (.tmp 18) 25 25 rfl _ _ rfl rfl _ _ hrun ?_)
        go_roundw
        case rel =>
          have := HQ.out
          exact ⟨j + 1, zs ++ [(x, y)], by omega, by simp; omega, by rw [show ((n - (j + 1) : Nat) : Int) = (q : Int) - 1 by omega], H3.out.2.2.2, H3.out.1, H3.out.2.1, H3.out.2.2.1⟩
        case measure => simp [Lib.intOf]; omega
      · obtain rfl : j = n := by omega
        rw [Nat.sub_self]
        go_wp2
        go_ret
        exact ⟨_, zs, rfl, hl, hA.out, hO.out, hT.out⟩
/-- complex numbers drawn -/
def RetZs (n : Nat) (P : Nat × Nat → Prop) (w : World) (e : Ending) (w' : World) : Prop := ∃ (v : Value) (zs : List (Nat × Nat)), e = .returned v ∧ zs.length = n ∧ allZ P zs ∧ Oz w' w.heap.size v zs ∧ Below w.heap.size w w'
set_option maxHeartbeats 1000000 in
theorem spec_B10Any (n : Nat) (hn : n ≤ 100) (a : Option Addr) (la ca : Nat) (hla : la ≤ 1048576) (w : World) (hA : Bs w a la) :
    Calls Tryz.prog 14 #[.slice a la ca, .int .i64 (n : Nat)] w (RetZs n ltZ w) := by
  have C0 := Lib.hid (spec_l00From a la ca w hA)
  go_enter Tryz.func14, Tryz.ntmps14
  go_wp2_with fail
  refine C0.out.mono ?_
  rintro _ w1 ⟨rfl, hS, hb, hB⟩
  have B1 := Lib.hid hB
  have C1 := Lib.hid (draw_complexes n hn w.heap.size a la ca 0 (by omega) hla w1 hS hb)
  clear hS hB C0
  go_wp2_with fail
  refine C1.out.mono ?_
  rintro _ w2 ⟨v, zs, rfl, hl, hA2, hO, hT⟩
  have H := Lib.hid (And.intro hl (And.intro hA2 (And.intro (hO.base (b' := w.heap.size) (by omega)) (B1.out.trans (hT.below (Nat.le_refl _) (by omega))))))
  clear hl hA2 hO hT C1
  go_wp2
  go_ret
  exact ⟨v, zs, rfl, H.out.1, H.out.2.1, H.out.2.2.1, H.out.2.2.2⟩
def RetC32 (w : World) (e : Ending) (w' : World) : Prop := ∃ x y : Nat, x < 4294967296 ∧ y < 4294967296 ∧ e = .returned (.complex .f32 x y) ∧ Below w.heap.size w w'
set_option maxHeartbeats 2000000 in
theorem spec_B10Complex (a : Option Addr) (la ca : Nat) (hla : la ≤ 1048576) (w : World) (hA : Bs w a la) :
    Calls Tryz.prog 21 #[.slice a la ca] w (RetC32 w) := by
  have C0 := Lib.hid (spec_l00From a la ca w hA)
  go_enter Tryz.func21, Tryz.ntmps21
  go_wp2_with fail
  refine C0.out.mono ?_
  rintro _ w1 ⟨rfl, hS, hb, hB⟩
  have B1 := Lib.hid hB
  have C1 := Lib.hid (src_one 4 (by omega) (by omega) w.heap.size a la ca 0 (by omega) hla w1 hS hb)
  clear hS hB C0
  go_wp2_with fail
  refine C1.out.mono ?_
  rintro _ w2 ⟨_, rfl, ⟨t, rfl⟩, hS, hT⟩
  have S2 := Lib.hid hS
  have b2 := hT.lt hb
  have B2 := Lib.hid (B1.out.trans (hT.below (Nat.le_refl _) (by omega)))
  clear hS hT C1
  cases t
  · have C2 := Lib.hid (draw_fine w.heap.size a la ca 2 (by omega) hla w2 S2.out b2)
    go_wp2_with fail
    refine C2.out.mono ?_
    rintro _ w3 ⟨_, rfl, ⟨x, y, hx, hy, rfl⟩, hS, hT⟩
    have H := Lib.hid (B2.out.trans (hT.below (Nat.le_refl _) (by omega)))
    clear hS hT
    go_wp2
    go_ret
    exact ⟨x, y, hx, hy, rfl, H.out⟩
  · have C2 := Lib.hid (draw_complex w.heap.size a la ca 2 (by omega) hla w2 S2.out b2)
    go_wp2_with fail
    refine C2.out.mono ?_
    rintro _ w3 ⟨_, rfl, ⟨x, y, hx, hy, rfl⟩, hS, hT⟩
    have H := Lib.hid (B2.out.trans (hT.below (Nat.le_refl _) (by omega)))
    clear hS hT
    go_wp2
    go_ret
    exact ⟨x, y, hx, hy, rfl, H.out⟩
/-- whole numbers of at most 200 -/
def whZ (z : Nat × Nat) : Prop := ∃ m n : Int, m.natAbs ≤ 200 ∧ n.natAbs ≤ 200 ∧ z = (floatOfInt .f32 m, floatOfInt .f32 n)
set_option maxHeartbeats 4000000 in
theorem spec_B10Whole (a : Option Addr) (la ca : Nat) (hla : la ≤ 1048576) (w : World) (hA : Bs w a la) :
    Calls Tryz.prog 5 #[.slice a la ca, .int .i64 1, .int .i64 200] w (RetZs 1 whZ w) := by
  have C0 := Lib.hid (spec_l00From a la ca w hA)
  go_enter Tryz.func5, Tryz.ntmps5
  go_wp2_with fail
  refine C0.out.mono ?_
  rintro _ w1 ⟨rfl, hS, hb, hB⟩
  have B1 := Lib.hid hB
  have S1 := Lib.hid (hS.alloc hb (.cells #[] 24))
  have O1 := Lib.hid (Oz_empty w1 w1.heap.size (Nat.le_refl _))
  have hb1 := hb
  obtain ⟨p, hp⟩ : ∃ p, p = w.heap.size := ⟨_, rfl⟩
  rw [← hp] at hb S1 ⊢
  have HP := Lib.hid hp
  clear hS hB C0 hp hb1
  go_wp2
  go_loopw [1, 8, 9] (fun m v fx wr => ∃ (j : Nat) (zs : List (Nat × Nat)), j ≤ 1 ∧ zs.length = j ∧ m = .int .i64 ((1 - j : Nat) : Int) ∧ Hid (allZ whZ zs) ∧ Hid (Oz wr w1.heap.size v zs) ∧ Hid (Sc wr p a la ca (4 * j)) ∧ Hid (Tch p w1 wr)) (fun m _ _ _ => (Lib.intOf m).toNat)
  case atStart => exact ⟨0, [], Nat.zero_le _, rfl, rfl, allZ.nil _, O1.out, S1.out, Tch.alloc _ _ _⟩
  case round =>
    clear O1 S1
    obtain ⟨j, zs, hj, hl, rfl, hA, hO, hS, hT⟩ := hrel
    by_cases hlt : j < 1
    · obtain rfl : j = 0 := by omega
      have hbr : p < wr.heap.size := hT.out.lt hb
      have C := Lib.hid (src_pick 401 (by omega) (by omega) p a la ca 0 (by omega) hla wr hS.out hbr)
      go_wp2_with fail
      refine C.out.mono ?_
      rintro _ w2 ⟨_, rfl, ⟨x, hx, rfl⟩, hS2, hT2⟩
      have hb2 := hT2.lt hbr
      have C2 := Lib.hid (src_pick 401 (by omega) (by omega) p a la ca 2 (by omega) hla w2 hS2 hb2)
      have T2 := Lib.hid (hT.out.trans hT2)
      have O2 := Lib.hid (hO.out.tchI hb hT2)
      clear hS2 hT2 C
      have x1 : -200 ≤ (x : Int) - 200 ∧ (x : Int) - 200 ≤ 200 := by omega
      go_wp2_with fail
      refine C2.out.mono ?_
      rintro _ w3 ⟨_, rfl, ⟨y, hy, rfl⟩, hS3, hT3⟩
      have hb3 := hT3.lt hb2
      have T3 := Lib.hid (T2.out.trans hT3)
      have O3 := Lib.hid (O2.out.tchI hb hT3)
      have y1 : -200 ≤ (y : Int) - 200 ∧ (y : Int) - 200 ≤ 200 := by omega
      obtain ⟨v2, w4, hrun, hO2, hG, _⟩ := run_pushZ w3 w1.heap.size _ _ (floatOfInt .f32 ((x : Int) - 200)) (floatOfInt .f32 ((y : Int) - 200)) O3.out T3.out.2.2.2.1 (by omega) 25 (a := none) (ws := []) (.inl rfl)
      have H3 := Lib.hid (And.intro hO2 (And.intro (hS3.kept hb3 (hG.mono (by omega))) (And.intro (T3.out.pushI hG) (hA.out.snoc (z := (floatOfInt .f32 ((x : Int) - 200), floatOfInt .f32 ((y : Int) - 200))) ⟨_, _, by omega, by omega, rfl⟩))))
      clear hO2 hG hS3 hT3 C2
      go_wp2_with (at_builtin; refine Lib.wpList_append_run _ rfl (.tmp 25) (.tmp 36) 25 25 rfl _ _ rfl rfl _ _ hrun ?_)
      go_roundw
      case rel =>
        exact ⟨1, zs ++ [_], by omega, by rw [List.length_append, hl]; rfl, rfl, H3.out.2.2.2, H3.out.1, H3.out.2.1, H3.out.2.2.1⟩
      case measure => simp [Lib.intOf]
    · obtain rfl : j = 1 := by omega
      go_wp2
      go_ret
      have hle := B1.out.size
      refine ⟨_, zs, rfl, hl, hA.out, hO.out.base hle, ?_⟩
      rw [← HP.out] at B1 hle ⊢
      exact B1.out.trans (hT.out.below (Nat.le_refl _) (by omega))
end Go.Proofs.YtkemghecglbleaaGreatDoor
