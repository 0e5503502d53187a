/- JoinSteps of the reference, whole. -/
import Derived.Test.YtkdojogjalkddaaJq
namespace Go.Proofs.Ytkdojogjalkddaa
set_option maxRecDepth 100000
set_option linter.unusedVariables false
open Go.RowKit

/-- what is handed on from a call into the result's block -/
theorem st_pass {w wB w' : World} {r : Nat} {a b : Option Addr} {n m c d : Nat} {es hs : List Nat} {v : Bool} (hB : Below w.heap.size w wB) (hr0 : w.heap.size ≤ r) (hr : r < wB.heap.size) (h : RetSt es hs v wB (.returned (.tuple #[.agg #[.slice a n c, .slice b m d], .bool v])) w') (u u' : Value) :
    RetSt es hs v w (.returned (.tuple #[.agg #[.slice a n c, .slice b m d], .bool v])) ((w'.setCell ⟨r, 0, none⟩ u).setCell ⟨r, 1, none⟩ u') := by
  obtain ⟨ve, vh, e, h1, h2, h3, h4⟩ := h
  cases e
  have ne : ∀ x l, Ow w' wB.heap.size x l → Ow ((w'.setCell ⟨r, 0, none⟩ u).setCell ⟨r, 1, none⟩ u') w.heap.size x l := by
    intro x l h
    have hb : x.ownBlock ≠ some r := fun q => by have := (h.lt q).1; omega
    exact ((h.kept (grownBy_set w' r 0 u) (.inr hb)).kept (grownBy_set _ r 1 u') (.inr hb)).base (fun k hk => Nat.le_trans hB.size (h.lt hk).1)
  exact ⟨_, _, rfl, ne _ _ h1, ne _ _ h2, h3, ((hB.trans (h4.mono hB.size)).setCell hr0 _).setCell hr0 _⟩

/-- what joining gives -/
def Jd (xs ys xs' ys' : List Nat) (g : Nat) (fs ks : List Nat) (v : Bool) : Prop :=
  (jnB xs ys xs' ys' g = true ∧ vsB (jnE xs xs' (jnM xs xs' g) xs'.length) (jnH ys ys' xs'.length) = v ∧ fs = (if v then jnE xs xs' (jnM xs xs' g) xs'.length else []) ∧ ks = (if v then jnH ys ys' xs'.length else [])) ∨
  (jnB xs ys xs' ys' g = false ∧ v = false ∧ fs = [] ∧ ks = [])
theorem Jd.bad {xs ys xs' ys' : List Nat} {g : Nat} {fs ks : List Nat} {v : Bool} (h : Jd xs ys xs' ys' g fs ks v) (hb : jnB xs ys xs' ys' g = false) : fs = [] ∧ ks = [] ∧ v = false := by
  rcases h with ⟨q, _⟩ | ⟨_, h1, h2, h3⟩
  · rw [hb] at q; cases q
  · exact ⟨h2, h3, h1⟩
theorem spec_l02Join (p q : Nat) (a b a' b' : Option Addr) (c d c' d' g : Nat) (xs ys xs' ys' fs ks : List Nat) (v : Bool) (w : World) (hp : Bk w p (.slice a xs.length c) (.slice b ys.length d)) (hq : Bk w q (.slice a' xs'.length c') (.slice b' ys'.length d')) (hs : Fs w a xs) (ht : Fs w b ys) (hs' : Fs w a' xs') (ht' : Fs w b' ys')
    (hv : vsB xs ys = true) (hv2 : vsB xs' ys' = true) (hw1 : ∀ j, j < xs.length → xs.getD j 0 < 4294967296) (hw2 : ∀ j, j < ys.length → ys.getD j 0 < 4294967296) (hw3 : ∀ j, j < xs'.length → xs'.getD j 0 < 4294967296) (hw4 : ∀ j, j < ys'.length → ys'.getD j 0 < 4294967296) (hj : Jd xs ys xs' ys' g fs ks v) :
    Calls Try.prog 41 #[.pointer (some ⟨p, 0, none⟩), .pointer (some ⟨q, 0, none⟩), .float .f32 g] w (RetSt fs ks v w) := by
  cases hb : jnB xs ys xs' ys' g with
  | false =>
    obtain ⟨rfl, rfl, rfl⟩ := hj.bad hb
    exact spec_l02Join_bad p q a b a' b' c d c' d' g xs ys xs' ys' w hp hq hs ht hs' ht' hv hv2 hw2 hw4 hb
  | true =>
    rcases hj with ⟨_, h1, h2, h3⟩ | ⟨q, _⟩
    · exact spec_l02Join_good p _ a b a' b' c d c' d' g xs ys xs' ys' w hp hq hs ht hs' ht' hw1 hw2 hw3 hw4 hb v h1 fs ks h2 h3
    · rw [hb] at q; cases q
theorem three_new (w : World) (a b c d : Value) : Kp w [(w.heap.size + 2, .slice none 0 0, .slice none 0 0), (w.heap.size + 1, c, d), (w.heap.size, a, b)] [] (((w.alloc (.cells #[a, b] 27)).alloc (.cells #[c, d] 27)).alloc (.cells #[.slice none 0 0, .slice none 0 0] 27)) := by
  have h := (two_new w a b c d 27 27).new (.slice none 0 0) (.slice none 0 0) 27
  have e : ((w.alloc (.cells #[a, b] 27)).alloc (.cells #[c, d] 27)).heap.size = w.heap.size + 2 := by simp
  rwa [e] at h
theorem three_frozen (w : World) (a b c d : Value) (i : Nat) : (((w.alloc (.cells #[a, b] 27)).alloc (.cells #[c, d] 27)).alloc (.cells #[.slice none 0 0, .slice none 0 0] 27)).frozen? ⟨w.heap.size + 2, i, none⟩ = false := World.frozen?_alloc_at _ _ _ _ (by simp)

set_option maxHeartbeats 4000000 in
theorem spec_JoinSteps (a b a' b' : Option Addr) (c d c' d' g : Nat) (xs ys xs' ys' fs ks : List Nat) (v : Bool) (w : World) (hs : Fs w a xs) (ht : Fs w b ys) (hs' : Fs w a' xs') (ht' : Fs w b' ys') (hl : xs.length ≤ 1048576) (hl2 : ys.length ≤ 1048576) (hl3 : xs'.length ≤ 1048576) (hl4 : ys'.length ≤ 1048576)
    (hw1 : ∀ j, j < xs.length → xs.getD j 0 < 4294967296) (hw2 : ∀ j, j < ys.length → ys.getD j 0 < 4294967296) (hw3 : ∀ j, j < xs'.length → xs'.getD j 0 < 4294967296) (hw4 : ∀ j, j < ys'.length → ys'.getD j 0 < 4294967296) (hj : Jd xs ys xs' ys' g fs ks v) :
    Calls Try.prog 22 #[.agg #[.slice a xs.length c, .slice b ys.length d], .agg #[.slice a' xs'.length c', .slice b' ys'.length d'], .float .f32 g] w (RetSt fs ks v w) := by
  have HS := Lib.hid (And.intro (And.intro hs ht) (And.intro hs' ht'))
  have HW := Lib.hid (And.intro (And.intro hw1 hw2) (And.intro hw3 hw4))
  have HJ := Lib.hid hj
  have K0 := Lib.hid (three_new w (.slice a xs.length c) (.slice b ys.length d) (.slice a' xs'.length c') (.slice b' ys'.length d'))
  have Z0 := Lib.hid (And.intro (three_frozen w (.slice a xs.length c) (.slice b ys.length d) (.slice a' xs'.length c') (.slice b' ys'.length d') 0) (three_frozen w (.slice a xs.length c) (.slice b ys.length d) (.slice a' xs'.length c') (.slice b' ys'.length d') 1))
  clear hs ht hs' ht' hw1 hw2 hw3 hw4 hj
  cases hva : vsB xs ys with
  | false =>
    have B := Lib.hid (And.intro hva (HJ.out.bad (by unfold jnB; rw [hva]; rfl)))
    clear hva
    go_enter Try.func22, Try.ntmps22
    go_wp2_with fail
    refine (spec_l02Is w.heap.size a b c d xs ys _ (K0.out.nth 2 rfl).1 (K0.out.nth 2 rfl).2.1 (K0.out.fs HS.out.1.1) (K0.out.fs HS.out.1.2) hl hl2).mono ?_
    rw [B.out.1]
    rintro _ _ ⟨n1, rfl, rfl⟩
    generalize hWB : World.drewN _ n1 = wB
    have K1 := Lib.hid (show Kp w _ [] wB by rw [← hWB]; exact K0.out.drewN n1)
    have z0 : wB.frozen? ⟨w.heap.size + 2, 0, none⟩ = false := by rw [← hWB]; exact Z0.out.1
    have z1 : wB.frozen? ⟨w.heap.size + 2, 1, none⟩ = false := by rw [← hWB]; exact Z0.out.2
    clear hWB K0 Z0
    obtain ⟨q0, q1, q2⟩ := K1.out.nth 0 rfl
    go_wp2
    rw [B.out.2.1, B.out.2.2.1, B.out.2.2.2]
    refine bodyPost_ret (v := .tuple #[.agg #[.slice none 0 0, .slice none 0 0], .bool false]) (by simp [results, Try.results22, go_sem, q0, q1]) rfl ?_
    exact RetSt.nil _ _ ((K1.out.base.setCell (by show _ ≤ w.heap.size + 2; omega) _).setCell (by show _ ≤ w.heap.size + 2; omega) _)
  | true =>
    cases hvb : vsB xs' ys' with
    | false =>
      have B := Lib.hid (And.intro hva (And.intro hvb (HJ.out.bad (by unfold jnB; rw [hva, hvb]; rfl))))
      clear hva hvb
      go_enter Try.func22, Try.ntmps22
      go_wp2_with fail
      refine (spec_l02Is w.heap.size a b c d xs ys _ (K0.out.nth 2 rfl).1 (K0.out.nth 2 rfl).2.1 (K0.out.fs HS.out.1.1) (K0.out.fs HS.out.1.2) hl hl2).mono ?_
      rw [B.out.1]
      rintro _ _ ⟨n1, rfl, rfl⟩
      go_wp2_with fail
      refine (spec_l02Is (w.heap.size + 1) a' b' c' d' xs' ys' _ ((K0.out.drewN n1).nth 1 rfl).1 ((K0.out.drewN n1).nth 1 rfl).2.1 ((K0.out.drewN n1).fs HS.out.2.1) ((K0.out.drewN n1).fs HS.out.2.2) hl3 hl4).mono ?_
      rw [B.out.2.1]
      rintro _ _ ⟨n2, rfl, rfl⟩
      generalize hWB : World.drewN _ n2 = wB
      have K1 := Lib.hid (show Kp w _ [] wB by rw [← hWB]; exact (K0.out.drewN n1).drewN n2)
      have z0 : wB.frozen? ⟨w.heap.size + 2, 0, none⟩ = false := by rw [← hWB]; exact Z0.out.1
      have z1 : wB.frozen? ⟨w.heap.size + 2, 1, none⟩ = false := by rw [← hWB]; exact Z0.out.2
      clear hWB K0 Z0
      obtain ⟨q0, q1, q2⟩ := K1.out.nth 0 rfl
      go_wp2
      rw [B.out.2.2.1, B.out.2.2.2.1, B.out.2.2.2.2]
      refine bodyPost_ret (v := .tuple #[.agg #[.slice none 0 0, .slice none 0 0], .bool false]) (by simp [results, Try.results22, go_sem, q0, q1]) rfl ?_
      exact RetSt.nil _ _ ((K1.out.base.setCell (by show _ ≤ w.heap.size + 2; omega) _).setCell (by show _ ≤ w.heap.size + 2; omega) _)
    | true =>
      have B := Lib.hid (And.intro hva hvb)
      clear hva hvb
      go_enter Try.func22, Try.ntmps22
      go_wp2_with fail
      refine (spec_l02Is w.heap.size a b c d xs ys _ (K0.out.nth 2 rfl).1 (K0.out.nth 2 rfl).2.1 (K0.out.fs HS.out.1.1) (K0.out.fs HS.out.1.2) hl hl2).mono ?_
      rw [B.out.1]
      rintro _ _ ⟨n1, rfl, rfl⟩
      go_wp2_with fail
      refine (spec_l02Is (w.heap.size + 1) a' b' c' d' xs' ys' _ ((K0.out.drewN n1).nth 1 rfl).1 ((K0.out.drewN n1).nth 1 rfl).2.1 ((K0.out.drewN n1).fs HS.out.2.1) ((K0.out.drewN n1).fs HS.out.2.2) hl3 hl4).mono ?_
      rw [B.out.2]
      rintro _ _ ⟨n2, rfl, rfl⟩
      generalize hWB : World.drewN _ n2 = wB
      have K1 := Lib.hid (show Kp w _ [] wB by rw [← hWB]; exact (K0.out.drewN n1).drewN n2)
      have Z1 := Lib.hid (show wB.frozen? ⟨w.heap.size + 2, 0, none⟩ = false ∧ wB.frozen? ⟨w.heap.size + 2, 1, none⟩ = false by rw [← hWB]; exact Z0.out)
      clear hWB K0 Z0
      go_wp2_with fail
      refine (spec_l02Join w.heap.size (w.heap.size + 1) a b a' b' c d c' d' g xs ys xs' ys' fs ks v wB (K1.out.nth 2 rfl) (K1.out.nth 1 rfl) (K1.out.fs HS.out.1.1) (K1.out.fs HS.out.1.2) (K1.out.fs HS.out.2.1) (K1.out.fs HS.out.2.2) B.out.1 B.out.2 HW.out.1.1 HW.out.1.2 HW.out.2.1 HW.out.2.2 HJ.out).mono ?_
      intro e w3 hr
      have hr2 := hr
      obtain ⟨aw, cw, bw, dw, rfl, _, hB⟩ := hr.open
      have R := Lib.hid (st_pass (r := w.heap.size + 2) K1.out.base (by omega) (K1.out.nth 0 rfl).2.2 hr2 (.slice aw fs.length cw) (.slice bw ks.length dw))
      have K2 := Lib.hid (K1.out.below hB)
      have z0 : w3.frozen? ⟨w.heap.size + 2, 0, none⟩ = false := (hB.frozen (p := ⟨w.heap.size + 2, 0, none⟩) (K1.out.nth 0 rfl).2.2).trans Z1.out.1
      have z1 : w3.frozen? ⟨w.heap.size + 2, 1, none⟩ = false := (hB.frozen (p := ⟨w.heap.size + 2, 1, none⟩) (K1.out.nth 0 rfl).2.2).trans Z1.out.2
      clear hr hr2 hB
      obtain ⟨q0, q1, q2⟩ := K2.out.nth 0 rfl
      go_wp2
      refine bodyPost_ret (v := .tuple #[.agg #[.slice aw fs.length cw, .slice bw ks.length dw], .bool v]) (by simp [results, Try.results22, go_sem, q0, q1]) rfl ?_
      exact R.out
end Go.Proofs.Ytkdojogjalkddaa
