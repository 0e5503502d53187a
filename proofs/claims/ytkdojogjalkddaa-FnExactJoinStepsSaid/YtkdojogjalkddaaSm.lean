/- SameSteps: both sides answer alike. -/
import Derived.Test.YtkdojogjalkddaaVa
namespace Go.Proofs.Ytkdojogjalkddaa
set_option maxRecDepth 100000
set_option linter.unusedVariables false
open Go.RowKit

/-- the same numbers at a place -/
def smP (xs ys : List Nat) (i : Nat) : Bool := decide (cn .f32 (xs.getD i 0) = cn .f32 (ys.getD i 0))
def smB (xs ys : List Nat) : Bool := decide (xs.length = ys.length) && (List.range xs.length).all (smP xs ys)
theorem smB_len {xs ys : List Nat} (h : ¬ xs.length = ys.length) : smB xs ys = false := by unfold smB; rw [decide_eq_false h]; rfl
theorem smB_eq {xs ys : List Nat} (h : xs.length = ys.length) : smB xs ys = (List.range xs.length).all (smP xs ys) := by unfold smB; rw [decide_eq_true h]; rfl

set_option maxHeartbeats 2000000 in
theorem spec_l01SameAll (a b : Option Addr) (c d : Nat) (xs ys : List Nat) (w : World) (hs : Fs w a xs) (ht : Fs w b ys) (hl : xs.length ≤ 1048577) (hl2 : ys.length ≤ 1048577) (hw : ∀ j, j < xs.length → xs.getD j 0 < 4294967296) (hw2 : ∀ j, j < ys.length → ys.getD j 0 < 4294967296) :
    Calls Try.prog 47 #[.slice a xs.length c, .slice b ys.length d] w (RetV (.bool (smB xs ys)) w) := by
  have HS := Lib.hid (And.intro hs ht)
  have HW := Lib.hid (And.intro hw hw2)
  clear hs ht hw hw2
  by_cases hn : xs.length = ys.length
  · have hne : ((xs.length : Int) != (ys.length : Int)) = false := by simp; omega
    have E := Lib.hid (smB_eq hn)
    have HN := Lib.hid hn
    have hle : xs.length ≤ ys.length := by omega
    clear hn
    go_enter Try.func47, Try.ntmps47
    go_wp2
    go_loopw [5] (fun i wr => ∃ j : Nat, j ≤ xs.length ∧ i = .int .i64 j ∧ Hid ((List.range j).all (smP xs ys) = true) ∧ Hid (Dr w wr)) (fun i _ => xs.length - (intOf i).toNat)
    case atStart => exact ⟨0, by omega, rfl, rfl, 0, rfl⟩
    case round =>
      obtain ⟨j, hj, rfl, hA, hR⟩ := hrel
      by_cases hlt : j < xs.length
      · obtain ⟨b1, off1, rfl, _, hc1⟩ := HS.out.1.at hlt
        obtain ⟨b2, off2, rfl, _, hc2⟩ := HS.out.2.at (k := j) (by omega)
        have h1 : wr.cell? ⟨b1, off1 + j, none⟩ = some (.float .f32 (xs.getD j 0)) := by
          obtain ⟨nq, e⟩ := hR.out
          rw [e]; exact hc1 j hlt
        have h2 : wr.cell? ⟨b2, off2 + j, none⟩ = some (.float .f32 (ys.getD j 0)) := by
          obtain ⟨nq, e⟩ := hR.out
          rw [e]; exact hc2 j (by omega)
        clear hc1 hc2
        have hx := HW.out.1 j hlt
        have hy := HW.out.2 j (by omega)
        have hki : (j : Int) < (xs.length : Int) := by omega
        have hki2 : (j : Int) < (ys.length : Int) := by omega
        cases hg : smP xs ys j with
        | true =>
          have G := Lib.hid hg
          have hcn : decide (cn .f32 (xs.getD j 0) = cn .f32 (ys.getD j 0)) = true := hg
          clear hg
          generalize xs.getD j 0 = x at h1 hx hcn
          generalize ys.getD j 0 = y at h2 hy hcn
          have C := Lib.hid (fun n => hcn ▸ spec_l01Same x y hx hy (wr.drewN n))
          clear hcn
          go_wp2
          go_quiet ((go_at_call 55; refine Calls.quiet_of ((C.out _).mono RetV.quiet)))
          go_wp2
          go_roundw
          case rel => exact ⟨j + 1, by omega, by go_num, Lib.hid (by rw [range_snoc_all, hA.out, G.out]; rfl), Dr.drewN hR.out _⟩
          case measure => simp [intOf]; omega
        | false =>
          have G := Lib.hid (show smB xs ys = false from E.out.trans (range_bad (smP xs ys) hlt hg))
          have hcn : decide (cn .f32 (xs.getD j 0) = cn .f32 (ys.getD j 0)) = false := hg
          clear hg
          generalize xs.getD j 0 = x at h1 hx hcn
          generalize ys.getD j 0 = y at h2 hy hcn
          have C := Lib.hid (fun n => hcn ▸ spec_l01Same x y hx hy (wr.drewN n))
          clear hcn
          go_wp2
          go_quiet ((go_at_call 55; refine Calls.quiet_of ((C.out _).mono RetV.quiet)))
          go_wp2
          go_ret
          obtain ⟨nq, e⟩ := hR.out
          rw [e, G.out]
          exact ⟨_, rfl, World.drewN_drewN ..⟩
      · have G := Lib.hid (show smB xs ys = true from E.out.trans (by rw [show xs.length = j by omega]; exact hA.out))
        go_wp2
        go_ret
        obtain ⟨nq, e⟩ := hR.out
        rw [e, G.out]
        exact RetV.mk rfl
  · have hne : ((xs.length : Int) != (ys.length : Int)) = true := by simp; omega
    have E := Lib.hid (smB_len hn)
    clear hn
    go_enter Try.func47, Try.ntmps47
    go_wp2
    go_ret
    rw [E.out]
    exact RetV.mk0 rfl

set_option maxHeartbeats 2000000 in
theorem EqualFunc_same (a b : Option Addr) (c d : Nat) (xs ys : List Nat) (w : World) (hs : Fs w a xs) (ht : Fs w b ys) (hl : xs.length ≤ 1048577) (hl2 : ys.length ≤ 1048577) (hw : ∀ j, j < xs.length → xs.getD j 0 < 4294967296) (hw2 : ∀ j, j < ys.length → ys.getD j 0 < 4294967296) :
    Calls Try.prog 48 #[.slice a xs.length c, .slice b ys.length d, .func (.func 42) #[] #[]] w (RetV (.bool (smB xs ys)) w) := by
  have HS := Lib.hid (And.intro hs ht)
  have HW := Lib.hid (And.intro hw hw2)
  clear hs ht hw hw2
  by_cases hn : xs.length = ys.length
  · have hne : ((xs.length : Int) != (ys.length : Int)) = false := by simp; omega
    have E := Lib.hid (smB_eq hn)
    have HN := Lib.hid hn
    have hle : xs.length ≤ ys.length := by omega
    clear hn
    go_enter Try.func48, Try.ntmps48
    go_wp2
    go_loopw [7, 8, 9, 17] (fun ii v1 v2 i wr => ∃ j nq : Nat, j ≤ xs.length ∧ i = .int .i64 j ∧ Hid ((List.range j).all (smP xs ys) = true) ∧ wr = w.drewN nq) (fun _ _ _ i _ => xs.length - (intOf i).toNat)
    case atStart => exact ⟨0, 0, by omega, rfl, rfl, rfl⟩
    case round =>
      obtain ⟨j, nq, hj, rfl, hA, rfl⟩ := hrel
      by_cases hlt : j < xs.length
      · obtain ⟨b1, off1, rfl, _, hc1⟩ := HS.out.1.at hlt
        obtain ⟨b2, off2, rfl, _, hc2⟩ := HS.out.2.at (k := j) (by omega)
        have h1 := hc1 j hlt
        have h2 := hc2 j (by omega)
        clear hc1 hc2
        have hx := HW.out.1 j hlt
        have hy := HW.out.2 j (by omega)
        have hki : (j : Int) < (xs.length : Int) := by omega
        have hki2 : (j : Int) < (ys.length : Int) := by omega
        cases hg : smP xs ys j with
        | true =>
          have G := Lib.hid hg
          have hcn : decide (cn .f32 (xs.getD j 0) = cn .f32 (ys.getD j 0)) = true := hg
          clear hg
          generalize xs.getD j 0 = x at h1 hx hcn
          generalize ys.getD j 0 = y at h2 hy hcn
          have C := Lib.hid (fun w' => hcn ▸ impl_SameNumber x y hx hy w')
          clear hcn
          go_wp2_with fail
          refine (C.out _).mono ?_
          rintro _ _ ⟨n1, rfl, rfl⟩
          go_wp2
          go_roundw
          case rel => exact ⟨j + 1, _, by omega, by go_num, Lib.hid (by rw [range_snoc_all, hA.out, G.out]; rfl), rfl⟩
          case measure => simp [intOf]; omega
        | false =>
          have G := Lib.hid (show smB xs ys = false from E.out.trans (range_bad (smP xs ys) hlt hg))
          have hcn : decide (cn .f32 (xs.getD j 0) = cn .f32 (ys.getD j 0)) = false := hg
          clear hg
          generalize xs.getD j 0 = x at h1 hx hcn
          generalize ys.getD j 0 = y at h2 hy hcn
          have C := Lib.hid (fun w' => hcn ▸ impl_SameNumber x y hx hy w')
          clear hcn
          go_wp2_with fail
          refine (C.out _).mono ?_
          rintro _ _ ⟨n1, rfl, rfl⟩
          go_wp2
          go_ret
          rw [G.out]
          exact RetV.mk rfl
      · have G := Lib.hid (show smB xs ys = true from E.out.trans (by rw [show xs.length = j by omega]; exact hA.out))
        go_wp2
        go_ret
        rw [G.out]
        exact RetV.mk rfl
  · have hne : ((xs.length : Int) != (ys.length : Int)) = true := by simp; omega
    have E := Lib.hid (smB_len hn)
    clear hn
    go_enter Try.func48, Try.ntmps48
    go_wp2
    go_ret
    rw [E.out]
    exact RetV.mk0 rfl

set_option maxHeartbeats 400000 in
theorem impl_sameNumbers (a b : Option Addr) (c d : Nat) (xs ys : List Nat) (w : World) (hs : Fs w a xs) (ht : Fs w b ys) (hl : xs.length ≤ 1048577) (hl2 : ys.length ≤ 1048577) (hw : ∀ j, j < xs.length → xs.getD j 0 < 4294967296) (hw2 : ∀ j, j < ys.length → ys.getD j 0 < 4294967296) :
    Calls Try.prog 31 #[.slice a xs.length c, .slice b ys.length d] w (RetV (.bool (smB xs ys)) w) := by
  have C := Lib.hid (EqualFunc_same a b c d xs ys w hs ht hl hl2 hw hw2)
  clear hs ht hw hw2
  go_enter Try.func31, Try.ntmps31
  go_wp2_with fail
  refine C.out.mono ?_
  rintro _ _ ⟨n1, rfl, rfl⟩
  go_wp2
  go_ret
  exact RetV.mk rfl

set_option maxHeartbeats 2000000 in
theorem spec_l02Same (p q : Nat) (a b a' b' : Option Addr) (c d c' d' : Nat) (xs ys xs' ys' : List Nat) (w : World) (h0 : w.cell? ⟨p, 0, none⟩ = some (.slice a xs.length c)) (h1 : w.cell? ⟨p, 1, none⟩ = some (.slice b ys.length d)) (g0 : w.cell? ⟨q, 0, none⟩ = some (.slice a' xs'.length c')) (g1 : w.cell? ⟨q, 1, none⟩ = some (.slice b' ys'.length d'))
    (hs : Fs w a xs) (ht : Fs w b ys) (hs' : Fs w a' xs') (ht' : Fs w b' ys') (hl : xs.length ≤ 1048576) (hl2 : ys.length ≤ 1048576) (hl3 : xs'.length ≤ 1048576) (hl4 : ys'.length ≤ 1048576)
    (hw : ∀ j, j < xs.length → xs.getD j 0 < 4294967296) (hw2 : ∀ j, j < ys.length → ys.getD j 0 < 4294967296) (hw3 : ∀ j, j < xs'.length → xs'.getD j 0 < 4294967296) (hw4 : ∀ j, j < ys'.length → ys'.getD j 0 < 4294967296) :
    Calls Try.prog 30 #[.pointer (some ⟨p, 0, none⟩), .pointer (some ⟨q, 0, none⟩)] w (RetV (.bool (smB xs xs' && smB ys ys')) w) := by
  cases hx : smB xs xs' with
  | false =>
    have C := Lib.hid (fun n => hx ▸ spec_l01SameAll a a' c c' xs xs' (w.drewN n) (hs.drewN n) (hs'.drewN n) (by omega) (by omega) hw hw3)
    clear hs ht hs' ht' hw hw2 hw3 hw4 hx
    go_enter Try.func30, Try.ntmps30
    go_wp2
    go_quiet ((go_at_call 47; refine Calls.quiet_of ((C.out _).mono RetV.quiet)))
    go_wp2
    go_ret
    exact RetV.mk rfl
  | true =>
    have C := Lib.hid (fun n => hx ▸ spec_l01SameAll a a' c c' xs xs' (w.drewN n) (hs.drewN n) (hs'.drewN n) (by omega) (by omega) hw hw3)
    have D := Lib.hid (fun n => spec_l01SameAll b b' d d' ys ys' (w.drewN n) (ht.drewN n) (ht'.drewN n) (by omega) (by omega) hw2 hw4)
    clear hs ht hs' ht' hw hw2 hw3 hw4 hx
    generalize smB ys ys' = v at D ⊢
    go_enter Try.func30, Try.ntmps30
    go_wp2
    go_quiet ((go_at_call 47; first | (with_reducible refine Calls.quiet_of ((C.out _).mono RetV.quiet)) | (with_reducible refine Calls.quiet_of ((D.out _).mono RetV.quiet))))
    go_wp2
    go_ret
    exact RetV.mk rfl

set_option maxHeartbeats 1000000 in
theorem spec_SameSteps (a b a' b' : Option Addr) (c d c' d' : Nat) (xs ys xs' ys' : List Nat) (w : World)
    (hs : Fs w a xs) (ht : Fs w b ys) (hs' : Fs w a' xs') (ht' : Fs w b' ys') (hl : xs.length ≤ 1048576) (hl2 : ys.length ≤ 1048576) (hl3 : xs'.length ≤ 1048576) (hl4 : ys'.length ≤ 1048576)
    (hw : ∀ j, j < xs.length → xs.getD j 0 < 4294967296) (hw2 : ∀ j, j < ys.length → ys.getD j 0 < 4294967296) (hw3 : ∀ j, j < xs'.length → xs'.getD j 0 < 4294967296) (hw4 : ∀ j, j < ys'.length → ys'.getD j 0 < 4294967296) :
    Calls Try.prog 13 #[.agg #[.slice a xs.length c, .slice b ys.length d], .agg #[.slice a' xs'.length c', .slice b' ys'.length d']] w (RetVB (.bool (smB xs xs' && smB ys ys')) w) := by
  have HS := Lib.hid (And.intro (And.intro hs ht) (And.intro hs' ht'))
  have HW := Lib.hid (And.intro (And.intro hw hw2) (And.intro hw3 hw4))
  clear hs ht hs' ht' hw hw2 hw3 hw4
  go_enter Try.func13, Try.ntmps13
  go_wp2_with fail
  refine (spec_l02Same w.heap.size (w.heap.size + 1) a b a' b' c d c' d' xs ys xs' ys' _ (by simp) (by simp) (by simp) (by simp) (HS.out.1.1.below (below2 _ _ _)) (HS.out.1.2.below (below2 _ _ _)) (HS.out.2.1.below (below2 _ _ _)) (HS.out.2.2.below (below2 _ _ _)) hl hl2 hl3 hl4 HW.out.1.1 HW.out.1.2 HW.out.2.1 HW.out.2.2).mono ?_
  rintro _ _ ⟨n1, rfl, rfl⟩
  go_wp2
  go_ret
  exact ⟨rfl, below_drewN' (below2 _ _ _) _⟩

set_option maxHeartbeats 1000000 in
theorem impl_SameSteps (a b a' b' : Option Addr) (c d c' d' : Nat) (xs ys xs' ys' : List Nat) (w : World)
    (hs : Fs w a xs) (ht : Fs w b ys) (hs' : Fs w a' xs') (ht' : Fs w b' ys') (hl : xs.length ≤ 1048576) (hl2 : ys.length ≤ 1048576) (hl3 : xs'.length ≤ 1048576) (hl4 : ys'.length ≤ 1048576)
    (hw : ∀ j, j < xs.length → xs.getD j 0 < 4294967296) (hw2 : ∀ j, j < ys.length → ys.getD j 0 < 4294967296) (hw3 : ∀ j, j < xs'.length → xs'.getD j 0 < 4294967296) (hw4 : ∀ j, j < ys'.length → ys'.getD j 0 < 4294967296) :
    Calls Try.prog 14 #[.agg #[.slice a xs.length c, .slice b ys.length d], .agg #[.slice a' xs'.length c', .slice b' ys'.length d']] w (RetVB (.bool (smB xs xs' && smB ys ys')) w) := by
  cases hx : smB xs xs' with
  | false =>
    have C := Lib.hid (fun w' (h : Fs w' a xs) (h' : Fs w' a' xs') => hx ▸ impl_sameNumbers a a' c c' xs xs' w' h h' (by omega) (by omega) hw hw3)
    have HS := Lib.hid (And.intro hs hs')
    clear hs ht hs' ht' hw hw2 hw3 hw4 hx
    go_enter Try.func14, Try.ntmps14
    go_wp2_with fail
    refine (C.out _ (HS.out.1.below (below2 _ _ _)) (HS.out.2.below (below2 _ _ _))).mono ?_
    rintro _ _ ⟨n1, rfl, rfl⟩
    go_wp2
    go_ret
    exact ⟨rfl, below_drewN' (below2 _ _ _) _⟩
  | true =>
    have C := Lib.hid (fun w' (h : Fs w' a xs) (h' : Fs w' a' xs') => hx ▸ impl_sameNumbers a a' c c' xs xs' w' h h' (by omega) (by omega) hw hw3)
    have D := Lib.hid (fun w' (h : Fs w' b ys) (h' : Fs w' b' ys') => impl_sameNumbers b b' d d' ys ys' w' h h' (by omega) (by omega) hw2 hw4)
    have HS := Lib.hid (And.intro (And.intro hs ht) (And.intro hs' ht'))
    clear hs ht hs' ht' hw hw2 hw3 hw4 hx
    generalize smB ys ys' = v at D ⊢
    go_enter Try.func14, Try.ntmps14
    go_wp2_with fail
    refine (C.out _ (HS.out.1.1.below (below2 _ _ _)) (HS.out.2.1.below (below2 _ _ _))).mono ?_
    rintro _ _ ⟨n1, rfl, rfl⟩
    go_wp2_with fail
    refine (D.out _ ((HS.out.1.2.below (below2 _ _ _)).drewN _) ((HS.out.2.2.below (below2 _ _ _)).drewN _)).mono ?_
    rintro _ _ ⟨n2, rfl, rfl⟩
    go_wp2
    go_ret
    exact ⟨rfl, below_drewN' (below2 _ _ _) _⟩
end Go.Proofs.Ytkdojogjalkddaa
