/- Lists of numbers drawn. -/
import Derived.Test.YticeapacffgikaaGreatDoorSd
import Derived.Test.YticeapacffgikaaGreatDoorGr
namespace Go.Proofs.YticeapacffgikaaGreatDoor
set_option maxRecDepth 100000
set_option linter.unusedVariables false
open Go.RowKit
theorem Tch.push {b : Nat} {w wr w4 : World} (h : Tch b w wr) (hB : Below w.heap.size wr w4) : Tch b w w4 := by
  obtain ⟨a1, a2, a3, a4, a5⟩ := h
  exact ⟨hB.os.trans a1, hB.tape.trans a2, hB.output.trans a3, Nat.le_trans a4 hB.size, fun i hi hn => (hB.block i hi).trans (a5 i hi hn)⟩
theorem Ow.tch {b base : Nat} {w w' : World} {v : Value} {xs : List Nat} (h : Ow w base v xs) (hb : b < base) (ht : Tch b w w') : Ow w' base v xs := by
  refine ⟨h.1, ?_⟩
  rcases h.2 with q | ⟨g, c, cur, e, h1, h2, r⟩
  · exact .inl q
  · exact .inr ⟨g, c, cur, e, h1, by rw [ht.2.2.2.2 g (Array.getElem?_eq_some_iff.1 h2).1 (by omega)]; exact h2, r⟩
def allLt (xs : List Nat) : Prop := ∀ x ∈ xs, x < 4294967296
theorem allLt.nil : allLt [] := fun x hx => (by cases hx)
theorem allLt.snoc {xs : List Nat} {x : Nat} (h : allLt xs) (hx : x < 4294967296) : allLt (xs ++ [x]) := fun y hy => by
  rcases List.mem_append.1 hy with q | q
  · exact h y q
  · rw [List.mem_singleton.1 q]; exact hx
set_option maxHeartbeats 4000000 in
theorem draw_floats (n : Nat) (hn : n ≤ 100) (b : Nat) (a : Option Addr) (la ca N : Nat) (hN : N ≤ 1000) (hla : la ≤ 1048576) (w : World) (h : Sc w b a la ca N) (hbs : b < w.heap.size) :
    Calls Tryz.prog 29 #[.pointer (some ⟨b, 0, none⟩), .int .i64 (n : Nat)] w (fun e w' => ∃ (v : Value) (xs : List Nat), e = .returned v ∧ xs.length = n ∧ allLt xs ∧ Ow w' w.heap.size v xs ∧ Tch b w w') := by
  have H := Lib.hid h
  have O0 := Lib.hid (OwR_empty w w.heap.size (Nat.le_refl _))
  clear h
  go_enter Tryz.func29, Tryz.ntmps29
  go_wp2_with fail
  refine (src_one 4 (by omega) (by omega) b a la ca N (by omega) hla _ (H.out.alloc hbs _) (by simp; omega)).mono ?_
  rintro _ w1 ⟨_, rfl, ⟨t, rfl⟩, hS, hT⟩
  have S1 := Lib.hid hS
  have T1 := Lib.hid ((Tch.alloc b w _).trans hT)
  have O1 := Lib.hid (O0.out.tch hbs hT)
  clear hS hT O0
  cases t
  · go_wp2
    go_loopw [1, 5] (fun m v wr => ∃ (j : Nat) (xs : List Nat), j ≤ n ∧ xs.length = j ∧ m = .int .i64 ((n - j : Nat) : Int) ∧ Hid (allLt xs) ∧ Hid (Ow wr w.heap.size v xs) ∧ Hid (Sc wr b a la ca (N + 2 + 10 * j)) ∧ Hid (Tch b w wr)) (fun m _ _ => (Lib.intOf m).toNat)
    case atStart => exact ⟨0, [], Nat.zero_le _, rfl, rfl, allLt.nil, O1.out, S1.out, T1.out⟩
    case round =>
      clear O1 S1 T1
      obtain ⟨j, xs, hj, hl, rfl, hA, hO, hS, hT⟩ := hrel
      by_cases hlt : j < n
      · obtain ⟨q, hq⟩ : ∃ q, q = n - j := ⟨_, rfl⟩
        rw [← hq]
        have hq0 : (q : Int) > 0 := by omega
        have hq1 : (q : Int) ≤ 100 := by omega
        have C := Lib.hid (draw_plain b a la ca (N + 2 + 10 * j) (by omega) hla wr hS.out (hT.out.lt hbs))
        have HQ := Lib.hid hq
        clear hq
        go_wp2_with fail
        refine C.out.mono ?_
        rintro _ w2 ⟨_, rfl, ⟨x, hx, rfl⟩, hS2, hT2⟩
        obtain ⟨v2, w4, hrun, hO2, hG⟩ := run_pushR w2 w.heap.size _ _ x (hO.out.tch hbs hT2) (hT.out.trans hT2).2.2.2.1 (by omega) 30
        have H3 := Lib.hid (And.intro hO2 (And.intro ((hS2.kept ((hT.out.trans hT2).lt hbs) (hG.mono (by omega))).mono (show N + 2 + 10 * j + 4 ≤ N + 2 + 10 * (j + 1) by omega)) (And.intro ((hT.out.trans hT2).push hG) (hA.out.snoc hx))))
        clear hO2 hG hS2 hT2 C
        go_wp2_with (at_builtin; refine Lib.wpList_append_run _ rfl (.tmp 20) (.tmp 23) 30 30 rfl _ _ rfl rfl _ _ hrun ?_)
        go_roundw
        case rel =>
          have := HQ.out
          exact ⟨j + 1, xs ++ [x], by omega, by simp; omega, by rw [show ((n - (j + 1) : Nat) : Int) = (q : Int) - 1 by omega], H3.out.2.2.2, H3.out.1, H3.out.2.1, H3.out.2.2.1⟩
        case measure => simp [Lib.intOf]; omega
      · obtain rfl : j = n := by omega
        rw [Nat.sub_self]
        go_wp2
        go_ret
        exact ⟨_, xs, rfl, hl, hA.out, hO.out, hT.out⟩
  · go_wp2
    go_loopw [1, 5] (fun m v wr => ∃ (j : Nat) (xs : List Nat), j ≤ n ∧ xs.length = j ∧ m = .int .i64 ((n - j : Nat) : Int) ∧ Hid (allLt xs) ∧ Hid (Ow wr w.heap.size v xs) ∧ Hid (Sc wr b a la ca (N + 2 + 10 * j)) ∧ Hid (Tch b w wr)) (fun m _ _ => (Lib.intOf m).toNat)
    case atStart => exact ⟨0, [], Nat.zero_le _, rfl, rfl, allLt.nil, O1.out, S1.out, T1.out⟩
    case round =>
      clear O1 S1 T1
      obtain ⟨j, xs, hj, hl, rfl, hA, hO, hS, hT⟩ := hrel
      by_cases hlt : j < n
      · obtain ⟨q, hq⟩ : ∃ q, q = n - j := ⟨_, rfl⟩
        rw [← hq]
        have hq0 : (q : Int) > 0 := by omega
        have hq1 : (q : Int) ≤ 100 := by omega
        have C := Lib.hid (draw_float b a la ca (N + 2 + 10 * j) (by omega) hla wr hS.out (hT.out.lt hbs))
        have HQ := Lib.hid hq
        clear hq
        go_wp2_with fail
        refine C.out.mono ?_
        rintro _ w2 ⟨_, rfl, ⟨x, hx, rfl⟩, hS2, hT2⟩
        obtain ⟨v2, w4, hrun, hO2, hG⟩ := run_pushR w2 w.heap.size _ _ x (hO.out.tch hbs hT2) (hT.out.trans hT2).2.2.2.1 (by omega) 30
        have H3 := Lib.hid (And.intro hO2 (And.intro ((hS2.kept ((hT.out.trans hT2).lt hbs) (hG.mono (by omega))).mono (show N + 2 + 10 * j + 10 ≤ N + 2 + 10 * (j + 1) by omega)) (And.intro ((hT.out.trans hT2).push hG) (hA.out.snoc hx))))
        clear hO2 hG hS2 hT2 C
        go_wp2_with (at_builtin; refine Lib.wpList_append_run _ rfl (.tmp 15) (.tmp 18) 30 30 rfl _ _ rfl rfl _ _ hrun ?_)
        go_roundw
        case rel =>
          have := HQ.out
          exact ⟨j + 1, xs ++ [x], by omega, by simp; omega, by rw [show ((n - (j + 1) : Nat) : Int) = (q : Int) - 1 by omega], H3.out.2.2.2, H3.out.1, H3.out.2.1, H3.out.2.2.1⟩
        case measure => simp [Lib.intOf]; omega
      · obtain rfl : j = n := by omega
        rw [Nat.sub_self]
        go_wp2
        go_ret
        exact ⟨_, xs, rfl, hl, hA.out, hO.out, hT.out⟩
set_option maxHeartbeats 1000000 in
theorem spec_B10Numbers (n : Nat) (hn : n ≤ 100) (a : Option Addr) (la ca : Nat) (hla : la ≤ 1048576) (w : World) (hA : Bs w a la) :
    Calls Tryz.prog 9 #[.slice a la ca, .int .i64 (n : Nat)] w (fun e w' => ∃ (v : Value) (xs : List Nat), e = .returned v ∧ xs.length = n ∧ allLt xs ∧ Ow w' w.heap.size v xs ∧ Below w.heap.size w w') := by
  have C0 := Lib.hid (spec_l00From a la ca w hA)
  go_enter Tryz.func9, Tryz.ntmps9
  go_wp2_with fail
  refine C0.out.mono ?_
  rintro _ w1 ⟨rfl, hS, hb, hB⟩
  have B1 := Lib.hid hB
  have C1 := Lib.hid (draw_floats n hn w.heap.size a la ca 0 (by omega) hla w1 hS hb)
  clear hS hB C0
  go_wp2_with fail
  refine C1.out.mono ?_
  rintro _ w2 ⟨v, xs, rfl, hl, hA2, hO, hT⟩
  have H := Lib.hid (And.intro hl (And.intro hA2 (And.intro (hO.baseR (b' := w.heap.size) (by omega)) (B1.out.trans (hT.below (Nat.le_refl _) (by omega))))))
  clear hl hA2 hO hT C1
  go_wp2
  go_ret
  exact ⟨v, xs, rfl, H.out.1, H.out.2.1, H.out.2.2.1, H.out.2.2.2⟩
end Go.Proofs.YticeapacffgikaaGreatDoor
