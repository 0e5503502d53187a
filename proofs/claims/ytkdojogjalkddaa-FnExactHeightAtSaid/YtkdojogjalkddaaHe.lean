/- What HeightAt gives on both sides. -/
import Derived.Test.YtkdojogjalkddaaKp
namespace Go.Proofs.Ytkdojogjalkddaa
set_option maxRecDepth 100000
set_option linter.unusedVariables false
open Go.RowKit

def leC (c d : Option Nat) : Bool := cord .f32 c d == some .lt || cord .f32 c d == some .eq
theorem le_is (x y : Nat) : (FloatKind.f32.format.order x y == some .lt || FloatKind.f32.format.order x y == some .eq) = leC (cn .f32 x) (cn .f32 y) := by rw [order_cord]; rfl
theorem compare_swap (a b : Int) : compare a b = (compare b a).swap := by
  rcases Int.lt_trichotomy a b with h | h | h
  · rw [Int.compare_eq_lt.2 h, Int.compare_eq_gt.2 h]; rfl
  · subst h; rw [Int.compare_eq_eq.2 rfl]; rfl
  · rw [Int.compare_eq_gt.2 h, Int.compare_eq_lt.2 h]; rfl
theorem ge_is {x y : Nat} (hx : x < 4294967296) (hy : y < 4294967296) : (FloatKind.f32.format.order x y == some .gt || FloatKind.f32.format.order x y == some .eq) = leC (cn .f32 y) (cn .f32 x) := by
  rw [← le_is]
  rcases cn_cases .f32 x with cx | cx
  · rw [order_none_left cx, order_none_right cx]; rfl
  · rcases cn_cases .f32 y with cy | cy
    · rw [order_none_left cy, order_none_right cy]; rfl
    · rw [order_sr .f32 x y (by rw [f32_sign]; omega) (by rw [f32_sign]; omega) cx cy, order_sr .f32 y x (by rw [f32_sign]; omega) (by rw [f32_sign]; omega) cy cx, compare_swap]
      cases compare (sr .f32 y) (sr .f32 x) <;> rfl

/-- the piece of a place -/
def htN (xs : List Nat) (x : Option Nat) : Nat → Nat → Nat
  | 0, i => i
  | f + 1, i => if leC (cn .f32 (xs.getD i 0)) x then htN xs x f (i + 1) else i
def htI (xs : List Nat) (x : Option Nat) : Nat := htN xs x xs.length 0
theorem htN_yes {xs : List Nat} {x : Option Nat} {i : Nat} (hi : i < xs.length) (h : leC (cn .f32 (xs.getD i 0)) x = true) : htN xs x (xs.length - i) i = htN xs x (xs.length - (i + 1)) (i + 1) := by
  obtain ⟨f, hf⟩ : ∃ f, xs.length - i = f + 1 := ⟨xs.length - i - 1, by omega⟩
  rw [hf, show xs.length - (i + 1) = f by omega]
  show (if _ then _ else _) = _
  rw [if_pos h]
theorem htN_no {xs : List Nat} {x : Option Nat} {i : Nat} (hi : i < xs.length) (h : leC (cn .f32 (xs.getD i 0)) x = false) : htN xs x (xs.length - i) i = i := by
  obtain ⟨f, hf⟩ : ∃ f, xs.length - i = f + 1 := ⟨xs.length - i - 1, by omega⟩
  rw [hf]
  show (if _ then _ else _) = _
  rw [if_neg (by rw [h]; simp)]

set_option maxHeartbeats 2000000 in
theorem spec_l02Height (p : Nat) (a b : Option Addr) (c d : Nat) (xs ys : List Nat) (x : Nat) (w : World) (h0 : w.cell? ⟨p, 0, none⟩ = some (.slice a xs.length c)) (h1 : w.cell? ⟨p, 1, none⟩ = some (.slice b ys.length d)) (hs : Fs w a xs) (ht : Fs w b ys) (hl : xs.length ≤ 1048576) (hn : xs.length < ys.length) (hl2 : ys.length ≤ 1048577) :
    Calls Try.prog 33 #[.pointer (some ⟨p, 0, none⟩), .float .f32 x] w (RetV (.float .f32 (ys.getD (htI xs (cn .f32 x)) 0)) w) := by
  have HS := Lib.hid (And.intro hs ht)
  clear hs ht
  go_enter Try.func33, Try.ntmps33
  go_wp2
  go_loopw [5] (fun i wr => ∃ k : Nat, k ≤ xs.length ∧ i = .int .i64 k ∧ Hid (htN xs (cn .f32 x) (xs.length - k) k = htI xs (cn .f32 x)) ∧ Hid (wr = w)) (fun i _ => xs.length - (intOf i).toNat)
  case atStart => exact ⟨0, by omega, rfl, rfl, rfl⟩
  case round =>
    obtain ⟨k, hk, rfl, hH, hW⟩ := hrel
    have hp0 : wr.cell? ⟨p, 0, none⟩ = some (.slice a xs.length c) := by rw [hW.out]; exact h0
    have hp1 : wr.cell? ⟨p, 1, none⟩ = some (.slice b ys.length d) := by rw [hW.out]; exact h1
    obtain ⟨b2, off2, rfl, _, hc2⟩ := HS.out.2.at (k := k) (by omega)
    have h2 : wr.cell? ⟨b2, off2 + k, none⟩ = some (.float .f32 (ys.getD k 0)) := by rw [hW.out]; exact hc2 k (by omega)
    clear hc2
    by_cases hlt : k < xs.length
    · obtain ⟨b1, off1, rfl, _, hc1⟩ := HS.out.1.at hlt
      have h3 : wr.cell? ⟨b1, off1 + k, none⟩ = some (.float .f32 (xs.getD k 0)) := by rw [hW.out]; exact hc1 k hlt
      clear hc1
      cases hg : leC (cn .f32 (xs.getD k 0)) (cn .f32 x) with
      | true =>
        have G := Lib.hid (htN_yes hlt hg)
        have ho := (le_is (xs.getD k 0) x).trans hg
        clear hg
        generalize xs.getD k 0 = e at h3 ho
        generalize ys.getD k 0 = y at h2
        go_wp2
        go_roundw
        case rel => exact ⟨k + 1, by omega, by go_num, Lib.hid (G.out.symm.trans hH.out), hW⟩
        case measure => simp [intOf]; omega
      | false =>
        have G := Lib.hid (show htI xs (cn .f32 x) = k from hH.out.symm.trans (htN_no hlt hg))
        have ho := (le_is (xs.getD k 0) x).trans hg
        clear hg
        generalize xs.getD k 0 = e at h3 ho
        generalize hy : ys.getD k 0 = y at h2
        have Y := Lib.hid hy
        clear hy
        go_wp2
        go_ret
        rw [G.out, hW.out, Y.out]
        exact RetV.mk0 rfl
    · obtain rfl : k = xs.length := by omega
      have G := Lib.hid (show htI xs (cn .f32 x) = xs.length by have := hH.out; rw [Nat.sub_self] at this; exact this.symm)
      generalize hy : ys.getD xs.length 0 = y at h2
      have Y := Lib.hid hy
      clear hy
      go_wp2
      go_ret
      rw [G.out, hW.out, Y.out]
      exact RetV.mk0 rfl

set_option maxHeartbeats 2000000 in
theorem impl_heightAt (a b : Option Addr) (c d : Nat) (xs ys : List Nat) (x : Nat) (w : World) (hs : Fs w a xs) (ht : Fs w b ys) (hl : xs.length ≤ 1048576) (hn : xs.length < ys.length) (hl2 : ys.length ≤ 1048577) (hx : x < 4294967296) (hw : ∀ j, j < xs.length → xs.getD j 0 < 4294967296) :
    Calls Try.prog 35 #[.agg #[.slice a xs.length c, .slice b ys.length d], .float .f32 x] w (RetVB (.float .f32 (ys.getD (htI xs (cn .f32 x)) 0)) w) := by
  have HS := Lib.hid (And.intro (hs.below (below1 w (.cells #[.slice a xs.length c, .slice b ys.length d] 27))) (ht.below (below1 w (.cells #[.slice a xs.length c, .slice b ys.length d] 27))))
  have HK := Lib.hid (Bk.new w (.slice a xs.length c) (.slice b ys.length d) 27)
  have HB := Lib.hid (below1 w (.cells #[.slice a xs.length c, .slice b ys.length d] 27))
  have HW := Lib.hid hw
  clear hs ht hw
  go_enter Try.func35, Try.ntmps35
  go_wp2
  generalize w.alloc (.cells #[.slice a xs.length c, .slice b ys.length d] 27) = W1 at HS HK HB ⊢
  obtain ⟨h0, h1, _⟩ := HK.out
  go_loopw [5] (fun i wr => ∃ k : Nat, k ≤ xs.length ∧ i = .int .i64 k ∧ Hid (htN xs (cn .f32 x) (xs.length - k) k = htI xs (cn .f32 x)) ∧ Hid (wr = W1)) (fun i _ => xs.length - (intOf i).toNat)
  case atStart => exact ⟨0, by omega, rfl, rfl, rfl⟩
  case round =>
    obtain ⟨k, hk, rfl, hH, hW⟩ := hrel
    have hp0 : wr.cell? ⟨w.heap.size, 0, none⟩ = some (.slice a xs.length c) := by rw [hW.out]; exact h0
    have hp1 : wr.cell? ⟨w.heap.size, 1, none⟩ = some (.slice b ys.length d) := by rw [hW.out]; exact h1
    obtain ⟨b2, off2, rfl, _, hc2⟩ := HS.out.2.at (k := k) (by omega)
    have h2 : wr.cell? ⟨b2, off2 + k, none⟩ = some (.float .f32 (ys.getD k 0)) := by rw [hW.out]; exact hc2 k (by omega)
    clear hc2
    by_cases hlt : k < xs.length
    · obtain ⟨b1, off1, rfl, _, hc1⟩ := HS.out.1.at hlt
      have h3 : wr.cell? ⟨b1, off1 + k, none⟩ = some (.float .f32 (xs.getD k 0)) := by rw [hW.out]; exact hc1 k hlt
      clear hc1
      have hlx := HW.out k hlt
      cases hg : leC (cn .f32 (xs.getD k 0)) (cn .f32 x) with
      | true =>
        have G := Lib.hid (htN_yes hlt hg)
        have ho := (ge_is hx hlx).trans hg
        clear hg
        generalize xs.getD k 0 = e at h3 ho hlx
        generalize ys.getD k 0 = y at h2
        go_wp2
        go_roundw
        case rel => exact ⟨k + 1, by omega, by go_num, Lib.hid (G.out.symm.trans hH.out), hW⟩
        case measure => simp [intOf]; omega
      | false =>
        have G := Lib.hid (show htI xs (cn .f32 x) = k from hH.out.symm.trans (htN_no hlt hg))
        have ho := (ge_is hx hlx).trans hg
        clear hg
        generalize xs.getD k 0 = e at h3 ho hlx
        generalize hy : ys.getD k 0 = y at h2
        have Y := Lib.hid hy
        clear hy
        go_wp2
        go_ret
        rw [G.out, hW.out, Y.out]
        exact ⟨rfl, HB.out⟩
    · obtain rfl : k = xs.length := by omega
      have G := Lib.hid (show htI xs (cn .f32 x) = xs.length by have := hH.out; rw [Nat.sub_self] at this; exact this.symm)
      generalize hy : ys.getD xs.length 0 = y at h2
      have Y := Lib.hid hy
      clear hy
      go_wp2
      go_ret
      rw [G.out, hW.out, Y.out]
      exact ⟨rfl, HB.out⟩

def htB (xs ys : List Nat) (x : Option Nat) : Bool := vsB xs ys && isFin x
def htR (xs ys : List Nat) (x : Option Nat) : Nat := if htB xs ys x then ys.getD (htI xs x) 0 else 0

set_option maxHeartbeats 2000000 in
theorem spec_HeightAt (a b : Option Addr) (c d : Nat) (xs ys : List Nat) (x : Nat) (w : World) (hs : Fs w a xs) (ht : Fs w b ys) (hl : xs.length ≤ 1048576) (hl2 : ys.length ≤ 1048576) (hx : x < 4294967296) (hw : ∀ j, j < xs.length → xs.getD j 0 < 4294967296) :
    Calls Try.prog 15 #[.agg #[.slice a xs.length c, .slice b ys.length d], .float .f32 x] w (RetVB (.tuple #[.float .f32 (htR xs ys (cn .f32 x)), .bool (htB xs ys (cn .f32 x))]) w) := by
  have HS := Lib.hid (And.intro (hs.below (below1 w (.cells #[.slice a xs.length c, .slice b ys.length d] 27))) (ht.below (below1 w (.cells #[.slice a xs.length c, .slice b ys.length d] 27))))
  have HK := Lib.hid (Bk.new w (.slice a xs.length c) (.slice b ys.length d) 27)
  have HB := Lib.hid (below1 w (.cells #[.slice a xs.length c, .slice b ys.length d] 27))
  clear hs ht hw
  cases hv : vsB xs ys with
  | false =>
    have V := Lib.hid (And.intro hv (show htB xs ys (cn .f32 x) = false by unfold htB; rw [hv]; rfl))
    clear hv
    have R := Lib.hid (show htR xs ys (cn .f32 x) = 0 by unfold htR; rw [V.out.2]; rfl)
    go_enter Try.func15, Try.ntmps15
    go_wp2_with fail
    refine (spec_l02Is w.heap.size a b c d xs ys _ HK.out.1 HK.out.2.1 HS.out.1 HS.out.2 hl hl2).mono ?_
    rw [V.out.1]
    rintro _ _ ⟨n1, rfl, rfl⟩
    go_wp2
    go_ret2
    rw [R.out, V.out.2]
    exact ⟨rfl, below_drewN' HB.out _⟩
  | true =>
    have HL := Lib.hid (vsB_ok hv)
    cases hf : isFin (cn .f32 x) with
    | false =>
      have V := Lib.hid (And.intro hv (show htB xs ys (cn .f32 x) = false by unfold htB; rw [hv, hf]; rfl))
      have F := Lib.hid hf
      clear hv hf
      have R := Lib.hid (show htR xs ys (cn .f32 x) = 0 by unfold htR; rw [V.out.2]; rfl)
      go_enter Try.func15, Try.ntmps15
      go_wp2_with fail
      refine (spec_l02Is w.heap.size a b c d xs ys _ HK.out.1 HK.out.2.1 HS.out.1 HS.out.2 hl hl2).mono ?_
      rw [V.out.1]
      rintro _ _ ⟨n1, rfl, rfl⟩
      go_wp2_with fail
      refine (spec_l01Finite x _).mono ?_
      rw [F.out]
      rintro _ _ ⟨n2, rfl, rfl⟩
      go_wp2
      go_ret2
      rw [R.out, V.out.2]
      exact ⟨rfl, below_drewN' HB.out _⟩
    | true =>
      have V := Lib.hid (And.intro hv (show htB xs ys (cn .f32 x) = true by unfold htB; rw [hv, hf]; rfl))
      have F := Lib.hid hf
      clear hv hf
      have R := Lib.hid (show htR xs ys (cn .f32 x) = ys.getD (htI xs (cn .f32 x)) 0 by unfold htR; rw [V.out.2]; rfl)
      go_enter Try.func15, Try.ntmps15
      go_wp2_with fail
      refine (spec_l02Is w.heap.size a b c d xs ys _ HK.out.1 HK.out.2.1 HS.out.1 HS.out.2 hl hl2).mono ?_
      rw [V.out.1]
      rintro _ _ ⟨n1, rfl, rfl⟩
      go_wp2_with fail
      refine (spec_l01Finite x _).mono ?_
      rw [F.out]
      rintro _ _ ⟨n2, rfl, rfl⟩
      go_wp2_with fail
      refine (spec_l02Height w.heap.size a b c d xs ys x _ (HK.out.drewN (n1 + n2)).1 (HK.out.drewN (n1 + n2)).2.1 (HS.out.1.drewN _) (HS.out.2.drewN _) hl (by have := HL.out.2.1; omega) (by omega)).mono ?_
      rw [← R.out]
      rintro _ _ ⟨n3, rfl, rfl⟩
      go_wp2
      go_ret2
      rw [V.out.2]
      exact ⟨rfl, below_drewN' HB.out _⟩

set_option maxHeartbeats 2000000 in
theorem impl_HeightAt (a b : Option Addr) (c d : Nat) (xs ys : List Nat) (x : Nat) (w : World) (hs : Fs w a xs) (ht : Fs w b ys) (hl : xs.length ≤ 1048576) (hl2 : ys.length ≤ 1048576) (hx : x < 4294967296) (hw : ∀ j, j < xs.length → xs.getD j 0 < 4294967296) :
    Calls Try.prog 16 #[.agg #[.slice a xs.length c, .slice b ys.length d], .float .f32 x] w (RetVB (.tuple #[.float .f32 (htR xs ys (cn .f32 x)), .bool (htB xs ys (cn .f32 x))]) w) := by
  have HS := Lib.hid (And.intro hs ht)
  have HW := Lib.hid hw
  clear hs ht hw
  cases hv : vsB xs ys with
  | false =>
    have V := Lib.hid (And.intro hv (show htB xs ys (cn .f32 x) = false by unfold htB; rw [hv]; rfl))
    clear hv
    have R := Lib.hid (show htR xs ys (cn .f32 x) = 0 by unfold htR; rw [V.out.2]; rfl)
    have K0 := Lib.hid ((Kp.start w).new (.slice a xs.length c) (.slice b ys.length d) 27)
    go_enter Try.func16, Try.ntmps16
    go_wp2_with fail
    refine (impl_ValidSteps a b c d xs ys _ (K0.out.fs HS.out.1) (K0.out.fs HS.out.2) hl hl2).mono ?_
    rw [V.out.1]
    rintro _ w1 ⟨rfl, hB⟩
    have K1 := Lib.hid (K0.out.below hB)
    clear K0 hB
    go_wp2
    go_ret2
    rw [R.out, V.out.2]
    exact ⟨rfl, K1.out.base⟩
  | true =>
    have HL := Lib.hid (vsB_ok hv)
    cases hf : isFin (cn .f32 x) with
    | false =>
      have V := Lib.hid (And.intro hv (show htB xs ys (cn .f32 x) = false by unfold htB; rw [hv, hf]; rfl))
      have F := Lib.hid hf
      clear hv hf
      have R := Lib.hid (show htR xs ys (cn .f32 x) = 0 by unfold htR; rw [V.out.2]; rfl)
      have K0 := Lib.hid ((Kp.start w).new (.slice a xs.length c) (.slice b ys.length d) 27)
      go_enter Try.func16, Try.ntmps16
      go_wp2_with fail
      refine (impl_ValidSteps a b c d xs ys _ (K0.out.fs HS.out.1) (K0.out.fs HS.out.2) hl hl2).mono ?_
      rw [V.out.1]
      rintro _ w1 ⟨rfl, hB⟩
      have K1 := Lib.hid (K0.out.below hB)
      clear K0 hB
      go_wp2_with fail
      refine (impl_IsFinite x _).mono ?_
      rw [F.out]
      rintro _ _ ⟨n2, rfl, rfl⟩
      go_wp2
      go_ret2
      rw [R.out, V.out.2]
      exact ⟨rfl, below_drewN' K1.out.base _⟩
    | true =>
      have V := Lib.hid (And.intro hv (show htB xs ys (cn .f32 x) = true by unfold htB; rw [hv, hf]; rfl))
      have F := Lib.hid hf
      clear hv hf
      have R := Lib.hid (show htR xs ys (cn .f32 x) = ys.getD (htI xs (cn .f32 x)) 0 by unfold htR; rw [V.out.2]; rfl)
      have K0 := Lib.hid ((Kp.start w).new (.slice a xs.length c) (.slice b ys.length d) 27)
      go_enter Try.func16, Try.ntmps16
      go_wp2_with fail
      refine (impl_ValidSteps a b c d xs ys _ (K0.out.fs HS.out.1) (K0.out.fs HS.out.2) hl hl2).mono ?_
      rw [V.out.1]
      rintro _ w1 ⟨rfl, hB⟩
      have K1 := Lib.hid (K0.out.below hB)
      clear K0 hB
      obtain ⟨k0, k1, k2⟩ := K1.out.nth 0 rfl
      go_wp2_with fail
      refine (impl_IsFinite x _).mono ?_
      rw [F.out]
      rintro _ _ ⟨n2, rfl, rfl⟩
      go_wp2_with fail
      refine (impl_heightAt a b c d xs ys x _ ((K1.out.fs HS.out.1).drewN _) ((K1.out.fs HS.out.2).drewN _) hl (by have := HL.out.2.1; omega) (by omega) hx HW.out).mono ?_
      rw [← R.out]
      rintro _ w2 ⟨rfl, hB⟩
      have K2 := Lib.hid ((K1.out.drewN _).below hB)
      clear hB
      go_wp2
      go_ret2
      rw [V.out.2]
      exact ⟨rfl, K2.out.base⟩

set_option maxHeartbeats 4000000 in
theorem law_HeightAt (a b : Option Addr) (c d : Nat) (xs ys : List Nat) (x : Nat) (w : World) (hs : Fs w a xs) (ht : Fs w b ys) (hw : ∀ j, j < xs.length → xs.getD j 0 < 4294967296) (hw2 : ∀ j, j < ys.length → ys.getD j 0 < 4294967296) (hm : xs.length ≤ maxLen) (hm2 : ys.length ≤ maxLen) (hx : x < 4294967296) :
    Calls Try.prog 5 #[.agg #[.slice a xs.length c, .slice b ys.length d], .float .f32 x] w (RetVB (.bool true) w) := by
  have HA := Lib.hid (And.intro hs ht)
  have WA := Lib.hid (And.intro hw hw2)
  clear hs ht hw hw2
  unfold maxLen at hm hm2
  by_cases hl : xs.length + ys.length ≤ 1048576
  · obtain ⟨v, hv⟩ : ∃ v, v = htB xs ys (cn .f32 x) := ⟨_, rfl⟩
    obtain ⟨r, hr⟩ : ∃ r, r = htR xs ys (cn .f32 x) := ⟨_, rfl⟩
    have HV := Lib.hid (And.intro hv.symm hr.symm)
    clear hv hr
    have l1 : xs.length ≤ 1048576 := by omega
    have l2 : ys.length ≤ 1048576 := by omega
    have K0 := Lib.hid ((Kp.start w).new (.slice a xs.length c) (.slice b ys.length d) 24)
    go_enter Try.func5, Try.ntmps5
    go_wp2_with fail
    refine (laws_szSteps_small a b xs.length ys.length c d 1048576 hl (by omega) _).mono ?_
    rintro _ w1 ⟨rfl, hB1⟩
    have K1 := Lib.hid (K0.out.below hB1)
    clear hB1 K0
    obtain ⟨k0, k1, k2⟩ := K1.out.nth 0 rfl
    go_wp2_with fail
    refine (laws_toSteps a b c d xs ys _ (K1.out.fs HA.out.1) (K1.out.fs HA.out.2) l1 l2).mono ?_
    rintro _ w2 ⟨g1, h1, rfl, _, _, _, hR, hR2, hB⟩
    have E1 := Lib.hid (K1.out.steps hR hR2 hB)
    clear hR hR2 hB
    clear K1 k0 k1 k2
    go_wp2_with fail
    refine (spec_HeightAt _ _ _ _ xs ys x _ (E1.out.row g1 (by simp)).Fs (E1.out.row h1 (by simp)).Fs l1 l2 hx WA.out.1).mono ?_
    rw [HV.out.1, HV.out.2]
    rintro _ w3 ⟨rfl, hB⟩
    have E2 := Lib.hid (E1.out.forget.below hB)
    clear hB E1
    obtain ⟨k0, k1, k2⟩ := E2.out.nth 0 rfl
    go_wp2_with fail
    refine (laws_toSteps a b c d xs ys _ (E2.out.fs HA.out.1) (E2.out.fs HA.out.2) l1 l2).mono ?_
    rintro _ w4 ⟨g2, h2, rfl, _, _, _, hR, hR2, hB⟩
    have E3 := Lib.hid (E2.out.steps hR hR2 hB)
    clear hR hR2 hB
    clear E2 k0 k1 k2
    have E4 := Lib.hid (E3.out.new (.slice (some ⟨g2, 0, none⟩) xs.length xs.length) (.slice (some ⟨h2, 0, none⟩) ys.length ys.length) 27)
    clear E3
    go_wp2_with fail
    refine (impl_HeightAt _ _ _ _ xs ys x _ (E4.out.row g2 (by simp)).Fs (E4.out.row h2 (by simp)).Fs l1 l2 hx WA.out.1).mono ?_
    rw [HV.out.1, HV.out.2]
    rintro _ w5 ⟨rfl, hB⟩
    have E5 := Lib.hid (E4.out.below hB)
    clear hB E4
    have hvv : (v != v) = false := by cases v <;> rfl
    go_wp2
    with_reducible refine up_up _ _ ?_
    intro r1 n1 hr1
    go_wp2
    with_reducible refine up_up _ _ ?_
    intro r2 n2 hr2
    have S := Lib.hid (show cn .f64 r1 = cn .f64 r2 from hr1.out.trans hr2.out.symm)
    clear hr1 hr2
    go_wp2_with fail
    refine (laws_sameFloat r1 r2 S.out _).mono ?_
    rintro _ _ ⟨n3, rfl, rfl⟩
    generalize hwq : World.drewN _ n3 = wq
    have E6 := Lib.hid (show Kp w _ _ wq by rw [← hwq]; exact (E5.out.drewN _).drewN _)
    clear hwq E5 S
    obtain ⟨e0, e1, e2⟩ := E6.out.nth 1 rfl
    obtain ⟨f0, f1, f2⟩ := E6.out.nth 0 rfl
    have FA := Lib.hid E6.out.drew
    clear E6
    go_wp2_with fail
    go_region_held3 (fun w' => w'.cell? ⟨w.heap.size, 0, none⟩ = some (.slice a xs.length c) ∧ w'.cell? ⟨w.heap.size, 1, none⟩ = some (.slice b ys.length d) ∧ w'.cell? ⟨w4.heap.size, 0, none⟩ = some (.slice (some ⟨g2, 0, none⟩) xs.length xs.length) ∧ w'.cell? ⟨w4.heap.size, 1, none⟩ = some (.slice (some ⟨h2, 0, none⟩) ys.length ys.length)) (first | exact (two_blocks (by assumption) (by assumption)) | go_keep)
      (first
        | (go_at_call 10; refine (laws_toSteps a b c d xs ys _ (FA.out.fs HA.out.1) (FA.out.fs HA.out.2) l1 l2).mono ?_; rintro _ w6 ⟨g6, h6, rfl, _, _, _, hR6, hR7, hB6⟩; have FB := Lib.hid (FA.out.steps hR6 hR7 hB6); clear FA hR6 hR7 hB6; have q0 := FB.out.nth 1 rfl; have q1 := FB.out.nth 0 rfl)
        | (go_at_call 12; refine (laws_eqSteps _ _ _ _ _ _ _ _ xs ys xs ys _ (FB.out.row g2 (by simp)).Fs (FB.out.row h2 (by simp)).Fs (FB.out.row g6 (by simp)).Fs (FB.out.row h6 (by simp)).Fs l1 l2 rfl rfl WA.out.1 WA.out.2 (fun _ _ => rfl) (fun _ _ => rfl)).mono ?_; rintro _ w7 ⟨rfl, hB7⟩; have E7 := Lib.hid (FB.out.below hB7); clear FB hB7 q0 q1; have q0 := E7.out.nth 1 rfl; have q1 := E7.out.nth 0 rfl))
    go_wp2
    go_ret
    exact ⟨rfl, E7.out.base⟩
  · have K0 := Lib.hid ((Kp.start w).new (.slice a xs.length c) (.slice b ys.length d) 24)
    go_enter Try.func5, Try.ntmps5
    go_wp2_with fail
    refine (laws_szSteps_great a b xs.length ys.length c d 1048576 (by omega) hm hm2 (by omega) _).mono ?_
    rintro _ w1 ⟨rfl, hB1⟩
    have K1 := Lib.hid (K0.out.below hB1)
    go_wp2
    go_ret
    exact ⟨rfl, K1.out.base⟩
end Go.Proofs.Ytkdojogjalkddaa
