/- JoinSteps of the program: bad arguments. -/
import Derived.Test.YtkdojogjalkddaaJt
import Derived.Test.YtkdojogjalkddaaJr
namespace Go.Proofs.Ytkdojogjalkddaa
set_option maxRecDepth 100000
set_option linter.unusedVariables false
open Go.RowKit

/-- the end when the arguments are bad: an empty result is laid -/
theorem jn_bad_end {w W w1 : World} {u u' : Value} {bx : List (Nat × Value × Value)} (hK : Kp w bx [] W) (hB : Below W.heap.size W w1) (r : Nat) (hr : w.heap.size ≤ r) :
    RetSt [] [] false w (.returned (.tuple #[.agg #[.slice none 0 0, .slice none 0 0], .bool false])) ((w1.setCell ⟨r, 0, none⟩ u).setCell ⟨r, 1, none⟩ u') :=
  RetSt.nil _ _ (((hK.below hB).base.setCell hr _).setCell hr _)

def Wj (w : World) (a b c d : Value) : World := ((w.alloc (.cells #[a, b] 27)).alloc (.cells #[c, d] 27)).alloc (.cells #[.slice none 0 0, .slice none 0 0] 27)
theorem Wj_new (w : World) (a b c d : Value) : Kp w [(w.heap.size + 2, .slice none 0 0, .slice none 0 0), (w.heap.size + 1, c, d), (w.heap.size, a, b)] [] (Wj w a b c d) := by
  have h := (two_new w a b c d 27 27).new (.slice none 0 0) (.slice none 0 0) 27
  have e : ((w.alloc (.cells #[a, b] 27)).alloc (.cells #[c, d] 27)).heap.size = w.heap.size + 2 := by simp
  rwa [e] at h
theorem Wj_frozen (w : World) (a b c d : Value) (i : Nat) : (Wj w a b c d).frozen? ⟨w.heap.size + 2, i, none⟩ = false := World.frozen?_alloc_at _ _ _ _ (by simp)
theorem Wj_size (w : World) (a b c d : Value) : (Wj w a b c d).heap.size = w.heap.size + 3 := by simp [Wj]
theorem Bw.cell {w : World} (p : Bw w.heap.size w) {q : Addr} {v : Value} (h : w.cell? q = some v) (hq : q.block < w.heap.size) : p.wd.cell? q = some v := (p.h.cell hq).trans h

set_option maxHeartbeats 4000000 in
theorem impl_JoinSteps_bad1 (a b a' b' : Option Addr) (c d c' d' g : Nat) (xs ys xs' ys' : List Nat) (w : World) (hs : Fs w a xs) (ht : Fs w b ys) (hs' : Fs w a' xs') (ht' : Fs w b' ys') (hl : xs.length ≤ 1048576) (hl2 : ys.length ≤ 1048576) (hl3 : xs'.length ≤ 1048576) (hl4 : ys'.length ≤ 1048576) (hva : vsB xs ys = false) :
    Calls Try.prog 23 #[.agg #[.slice a xs.length c, .slice b ys.length d], .agg #[.slice a' xs'.length c', .slice b' ys'.length d'], .float .f32 g] w (RetSt [] [] false w) := by
  obtain ⟨W, hW⟩ : ∃ W, W = Wj w (.slice a xs.length c) (.slice b ys.length d) (.slice a' xs'.length c') (.slice b' ys'.length d') := ⟨_, rfl⟩
  have K0 := Lib.hid (show Kp w _ [] W from hW ▸ Wj_new w (.slice a xs.length c) (.slice b ys.length d) (.slice a' xs'.length c') (.slice b' ys'.length d'))
  have Z0 := Lib.hid (show W.frozen? ⟨w.heap.size + 2, 0, none⟩ = false ∧ W.frozen? ⟨w.heap.size + 2, 1, none⟩ = false from hW ▸ And.intro (Wj_frozen w _ _ _ _ 0) (Wj_frozen w _ _ _ _ 1))
  have hsz : w.heap.size + 3 = W.heap.size := (hW ▸ Wj_size w _ _ _ _).symm
  have k0 : ∀ p : Bw W.heap.size W, p.wd.cell? ⟨w.heap.size, 0, none⟩ = some (.slice a xs.length c) := fun p => p.cell (K0.out.nth 2 rfl).1 (K0.out.nth 2 rfl).2.2
  have k1 : ∀ p : Bw W.heap.size W, p.wd.cell? ⟨w.heap.size, 1, none⟩ = some (.slice b ys.length d) := fun p => p.cell (K0.out.nth 2 rfl).2.1 (K0.out.nth 2 rfl).2.2
  have k2 : ∀ p : Bw W.heap.size W, p.wd.cell? ⟨w.heap.size + 1, 0, none⟩ = some (.slice a' xs'.length c') := fun p => p.cell (K0.out.nth 1 rfl).1 (K0.out.nth 1 rfl).2.2
  have k3 : ∀ p : Bw W.heap.size W, p.wd.cell? ⟨w.heap.size + 1, 1, none⟩ = some (.slice b' ys'.length d') := fun p => p.cell (K0.out.nth 1 rfl).2.1 (K0.out.nth 1 rfl).2.2
  have C1 := Lib.hid (fun p : Bw W.heap.size W => impl_ValidSteps a b c d xs ys p.wd ((K0.out.fs hs).below p.h) ((K0.out.fs ht).below p.h) hl hl2)
  have C2 := Lib.hid (fun p : Bw W.heap.size W => impl_ValidSteps a' b' c' d' xs' ys' p.wd ((K0.out.fs hs').below p.h) ((K0.out.fs ht').below p.h) hl3 hl4)
  rw [hva] at C1
  clear hs ht hs' ht' hl hl2 hl3 hl4
  go_enter Try.func23, Try.ntmps23
  go_wp2_with fail
  change Code.wp _ _ _ _ (Wj w (.slice a xs.length c) (.slice _ ys.length d) (.slice a' xs'.length c') (.slice _ ys'.length d'))
  rw [← hW]
  clear hW
  refine wp_region_below W.heap.size (by kernel_rfl) (by kernel_rfl) ?_
  repeat (go_big_quiet_step (first
    | (go_at_call_of 11 a; exact Calls.bw (Nat.le_refl _) (C1.out _))
    | (go_at_call_of 11 a'; exact Calls.bw (Nat.le_refl _) (C2.out _))
    | (go_at_call 34; exact Calls.bw (Nat.le_refl _) (C3.out _))
    | (go_at_call 42; exact Calls.bw (Nat.le_refl _) (C4.out _))))
  refine wpQuiet_nil ?_
  rintro _ ⟨p, rfl⟩
  have q0 : p.wd.cell? ⟨w.heap.size + 2, 0, none⟩ = some (.slice none 0 0) := p.cell (K0.out.nth 0 rfl).1 (K0.out.nth 0 rfl).2.2
  have q1 : p.wd.cell? ⟨w.heap.size + 2, 1, none⟩ = some (.slice none 0 0) := p.cell (K0.out.nth 0 rfl).2.1 (K0.out.nth 0 rfl).2.2
  have z0 : p.wd.frozen? ⟨w.heap.size + 2, 0, none⟩ = false := (p.h.frozen (p := ⟨w.heap.size + 2, 0, none⟩) (K0.out.nth 0 rfl).2.2).trans Z0.out.1
  have z1 : p.wd.frozen? ⟨w.heap.size + 2, 1, none⟩ = false := (p.h.frozen (p := ⟨w.heap.size + 2, 1, none⟩) (K0.out.nth 0 rfl).2.2).trans Z0.out.2
  clear k0 k1 k2 k3
  go_wp2
  refine bodyPost_ret (v := .tuple #[.agg #[.slice none 0 0, .slice none 0 0], .bool false]) (by simp [results, Try.results23, go_sem, q0, q1]) rfl ?_
  exact jn_bad_end K0.out p.h _ (by omega)
set_option maxHeartbeats 4000000 in
theorem impl_JoinSteps_bad2 (a b a' b' : Option Addr) (c d c' d' g : Nat) (xs ys xs' ys' : List Nat) (w : World) (hs : Fs w a xs) (ht : Fs w b ys) (hs' : Fs w a' xs') (ht' : Fs w b' ys') (hl : xs.length ≤ 1048576) (hl2 : ys.length ≤ 1048576) (hl3 : xs'.length ≤ 1048576) (hl4 : ys'.length ≤ 1048576) (hva : vsB xs ys = true) (hvb : vsB xs' ys' = false) :
    Calls Try.prog 23 #[.agg #[.slice a xs.length c, .slice b ys.length d], .agg #[.slice a' xs'.length c', .slice b' ys'.length d'], .float .f32 g] w (RetSt [] [] false w) := by
  obtain ⟨W, hW⟩ : ∃ W, W = Wj w (.slice a xs.length c) (.slice b ys.length d) (.slice a' xs'.length c') (.slice b' ys'.length d') := ⟨_, rfl⟩
  have K0 := Lib.hid (show Kp w _ [] W from hW ▸ Wj_new w (.slice a xs.length c) (.slice b ys.length d) (.slice a' xs'.length c') (.slice b' ys'.length d'))
  have Z0 := Lib.hid (show W.frozen? ⟨w.heap.size + 2, 0, none⟩ = false ∧ W.frozen? ⟨w.heap.size + 2, 1, none⟩ = false from hW ▸ And.intro (Wj_frozen w _ _ _ _ 0) (Wj_frozen w _ _ _ _ 1))
  have hsz : w.heap.size + 3 = W.heap.size := (hW ▸ Wj_size w _ _ _ _).symm
  have k0 : ∀ p : Bw W.heap.size W, p.wd.cell? ⟨w.heap.size, 0, none⟩ = some (.slice a xs.length c) := fun p => p.cell (K0.out.nth 2 rfl).1 (K0.out.nth 2 rfl).2.2
  have k1 : ∀ p : Bw W.heap.size W, p.wd.cell? ⟨w.heap.size, 1, none⟩ = some (.slice b ys.length d) := fun p => p.cell (K0.out.nth 2 rfl).2.1 (K0.out.nth 2 rfl).2.2
  have k2 : ∀ p : Bw W.heap.size W, p.wd.cell? ⟨w.heap.size + 1, 0, none⟩ = some (.slice a' xs'.length c') := fun p => p.cell (K0.out.nth 1 rfl).1 (K0.out.nth 1 rfl).2.2
  have k3 : ∀ p : Bw W.heap.size W, p.wd.cell? ⟨w.heap.size + 1, 1, none⟩ = some (.slice b' ys'.length d') := fun p => p.cell (K0.out.nth 1 rfl).2.1 (K0.out.nth 1 rfl).2.2
  have C1 := Lib.hid (fun p : Bw W.heap.size W => impl_ValidSteps a b c d xs ys p.wd ((K0.out.fs hs).below p.h) ((K0.out.fs ht).below p.h) hl hl2)
  have C2 := Lib.hid (fun p : Bw W.heap.size W => impl_ValidSteps a' b' c' d' xs' ys' p.wd ((K0.out.fs hs').below p.h) ((K0.out.fs ht').below p.h) hl3 hl4)
  rw [hva] at C1
  rw [hvb] at C2
  clear hs ht hs' ht' hl hl2 hl3 hl4
  go_enter Try.func23, Try.ntmps23
  go_wp2_with fail
  change Code.wp _ _ _ _ (Wj w (.slice a xs.length c) (.slice _ ys.length d) (.slice a' xs'.length c') (.slice _ ys'.length d'))
  rw [← hW]
  clear hW
  refine wp_region_below W.heap.size (by kernel_rfl) (by kernel_rfl) ?_
  repeat (go_big_quiet_step (first
    | (go_at_call_of 11 a; exact Calls.bw (Nat.le_refl _) (C1.out _))
    | (go_at_call_of 11 a'; exact Calls.bw (Nat.le_refl _) (C2.out _))
    | (go_at_call 34; exact Calls.bw (Nat.le_refl _) (C3.out _))
    | (go_at_call 42; exact Calls.bw (Nat.le_refl _) (C4.out _))))
  refine wpQuiet_nil ?_
  rintro _ ⟨p, rfl⟩
  have q0 : p.wd.cell? ⟨w.heap.size + 2, 0, none⟩ = some (.slice none 0 0) := p.cell (K0.out.nth 0 rfl).1 (K0.out.nth 0 rfl).2.2
  have q1 : p.wd.cell? ⟨w.heap.size + 2, 1, none⟩ = some (.slice none 0 0) := p.cell (K0.out.nth 0 rfl).2.1 (K0.out.nth 0 rfl).2.2
  have z0 : p.wd.frozen? ⟨w.heap.size + 2, 0, none⟩ = false := (p.h.frozen (p := ⟨w.heap.size + 2, 0, none⟩) (K0.out.nth 0 rfl).2.2).trans Z0.out.1
  have z1 : p.wd.frozen? ⟨w.heap.size + 2, 1, none⟩ = false := (p.h.frozen (p := ⟨w.heap.size + 2, 1, none⟩) (K0.out.nth 0 rfl).2.2).trans Z0.out.2
  clear k0 k1 k2 k3
  go_wp2
  refine bodyPost_ret (v := .tuple #[.agg #[.slice none 0 0, .slice none 0 0], .bool false]) (by simp [results, Try.results23, go_sem, q0, q1]) rfl ?_
  exact jn_bad_end K0.out p.h _ (by omega)
set_option maxHeartbeats 4000000 in
theorem impl_JoinSteps_bad3 (a b a' b' : Option Addr) (c d c' d' g : Nat) (xs ys xs' ys' : List Nat) (w : World) (hs : Fs w a xs) (ht : Fs w b ys) (hs' : Fs w a' xs') (ht' : Fs w b' ys') (hl : xs.length ≤ 1048576) (hl2 : ys.length ≤ 1048576) (hl3 : xs'.length ≤ 1048576) (hl4 : ys'.length ≤ 1048576) (hva : vsB xs ys = true) (hvb : vsB xs' ys' = true) (hg : isFin (cn .f32 g) = false) :
    Calls Try.prog 23 #[.agg #[.slice a xs.length c, .slice b ys.length d], .agg #[.slice a' xs'.length c', .slice b' ys'.length d'], .float .f32 g] w (RetSt [] [] false w) := by
  obtain ⟨W, hW⟩ : ∃ W, W = Wj w (.slice a xs.length c) (.slice b ys.length d) (.slice a' xs'.length c') (.slice b' ys'.length d') := ⟨_, rfl⟩
  have K0 := Lib.hid (show Kp w _ [] W from hW ▸ Wj_new w (.slice a xs.length c) (.slice b ys.length d) (.slice a' xs'.length c') (.slice b' ys'.length d'))
  have Z0 := Lib.hid (show W.frozen? ⟨w.heap.size + 2, 0, none⟩ = false ∧ W.frozen? ⟨w.heap.size + 2, 1, none⟩ = false from hW ▸ And.intro (Wj_frozen w _ _ _ _ 0) (Wj_frozen w _ _ _ _ 1))
  have hsz : w.heap.size + 3 = W.heap.size := (hW ▸ Wj_size w _ _ _ _).symm
  have k0 : ∀ p : Bw W.heap.size W, p.wd.cell? ⟨w.heap.size, 0, none⟩ = some (.slice a xs.length c) := fun p => p.cell (K0.out.nth 2 rfl).1 (K0.out.nth 2 rfl).2.2
  have k1 : ∀ p : Bw W.heap.size W, p.wd.cell? ⟨w.heap.size, 1, none⟩ = some (.slice b ys.length d) := fun p => p.cell (K0.out.nth 2 rfl).2.1 (K0.out.nth 2 rfl).2.2
  have k2 : ∀ p : Bw W.heap.size W, p.wd.cell? ⟨w.heap.size + 1, 0, none⟩ = some (.slice a' xs'.length c') := fun p => p.cell (K0.out.nth 1 rfl).1 (K0.out.nth 1 rfl).2.2
  have k3 : ∀ p : Bw W.heap.size W, p.wd.cell? ⟨w.heap.size + 1, 1, none⟩ = some (.slice b' ys'.length d') := fun p => p.cell (K0.out.nth 1 rfl).2.1 (K0.out.nth 1 rfl).2.2
  have C1 := Lib.hid (fun p : Bw W.heap.size W => impl_ValidSteps a b c d xs ys p.wd ((K0.out.fs hs).below p.h) ((K0.out.fs ht).below p.h) hl hl2)
  have C2 := Lib.hid (fun p : Bw W.heap.size W => impl_ValidSteps a' b' c' d' xs' ys' p.wd ((K0.out.fs hs').below p.h) ((K0.out.fs ht').below p.h) hl3 hl4)
  rw [hva] at C1
  rw [hvb] at C2
  have C3 := Lib.hid (fun p : Bw W.heap.size W => (impl_IsFinite g p.wd).mono fun _ _ h => h.b)
  rw [hg] at C3
  clear hs ht hs' ht' hl hl2 hl3 hl4
  go_enter Try.func23, Try.ntmps23
  go_wp2_with fail
  change Code.wp _ _ _ _ (Wj w (.slice a xs.length c) (.slice _ ys.length d) (.slice a' xs'.length c') (.slice _ ys'.length d'))
  rw [← hW]
  clear hW
  refine wp_region_below W.heap.size (by kernel_rfl) (by kernel_rfl) ?_
  repeat (go_big_quiet_step (first
    | (go_at_call_of 11 a; exact Calls.bw (Nat.le_refl _) (C1.out _))
    | (go_at_call_of 11 a'; exact Calls.bw (Nat.le_refl _) (C2.out _))
    | (go_at_call 34; exact Calls.bw (Nat.le_refl _) (C3.out _))
    | (go_at_call 42; exact Calls.bw (Nat.le_refl _) (C4.out _))))
  refine wpQuiet_nil ?_
  rintro _ ⟨p, rfl⟩
  have q0 : p.wd.cell? ⟨w.heap.size + 2, 0, none⟩ = some (.slice none 0 0) := p.cell (K0.out.nth 0 rfl).1 (K0.out.nth 0 rfl).2.2
  have q1 : p.wd.cell? ⟨w.heap.size + 2, 1, none⟩ = some (.slice none 0 0) := p.cell (K0.out.nth 0 rfl).2.1 (K0.out.nth 0 rfl).2.2
  have z0 : p.wd.frozen? ⟨w.heap.size + 2, 0, none⟩ = false := (p.h.frozen (p := ⟨w.heap.size + 2, 0, none⟩) (K0.out.nth 0 rfl).2.2).trans Z0.out.1
  have z1 : p.wd.frozen? ⟨w.heap.size + 2, 1, none⟩ = false := (p.h.frozen (p := ⟨w.heap.size + 2, 1, none⟩) (K0.out.nth 0 rfl).2.2).trans Z0.out.2
  clear k0 k1 k2 k3
  go_wp2
  refine bodyPost_ret (v := .tuple #[.agg #[.slice none 0 0, .slice none 0 0], .bool false]) (by simp [results, Try.results23, go_sem, q0, q1]) rfl ?_
  exact jn_bad_end K0.out p.h _ (by omega)
set_option maxHeartbeats 4000000 in
theorem impl_JoinSteps_bad4 (a b a' b' : Option Addr) (c d c' d' g : Nat) (xs ys xs' ys' : List Nat) (w : World) (hs : Fs w a xs) (ht : Fs w b ys) (hs' : Fs w a' xs') (ht' : Fs w b' ys') (hl : xs.length ≤ 1048576) (hl2 : ys.length ≤ 1048576) (hl3 : xs'.length ≤ 1048576) (hl4 : ys'.length ≤ 1048576) (hva : vsB xs ys = true) (hvb : vsB xs' ys' = true) (hgf : isFin (cn .f32 g) = true) (hg : posC (cn .f32 g) = false) :
    Calls Try.prog 23 #[.agg #[.slice a xs.length c, .slice b ys.length d], .agg #[.slice a' xs'.length c', .slice b' ys'.length d'], .float .f32 g] w (RetSt [] [] false w) := by
  obtain ⟨W, hW⟩ : ∃ W, W = Wj w (.slice a xs.length c) (.slice b ys.length d) (.slice a' xs'.length c') (.slice b' ys'.length d') := ⟨_, rfl⟩
  have K0 := Lib.hid (show Kp w _ [] W from hW ▸ Wj_new w (.slice a xs.length c) (.slice b ys.length d) (.slice a' xs'.length c') (.slice b' ys'.length d'))
  have Z0 := Lib.hid (show W.frozen? ⟨w.heap.size + 2, 0, none⟩ = false ∧ W.frozen? ⟨w.heap.size + 2, 1, none⟩ = false from hW ▸ And.intro (Wj_frozen w _ _ _ _ 0) (Wj_frozen w _ _ _ _ 1))
  have hsz : w.heap.size + 3 = W.heap.size := (hW ▸ Wj_size w _ _ _ _).symm
  have k0 : ∀ p : Bw W.heap.size W, p.wd.cell? ⟨w.heap.size, 0, none⟩ = some (.slice a xs.length c) := fun p => p.cell (K0.out.nth 2 rfl).1 (K0.out.nth 2 rfl).2.2
  have k1 : ∀ p : Bw W.heap.size W, p.wd.cell? ⟨w.heap.size, 1, none⟩ = some (.slice b ys.length d) := fun p => p.cell (K0.out.nth 2 rfl).2.1 (K0.out.nth 2 rfl).2.2
  have k2 : ∀ p : Bw W.heap.size W, p.wd.cell? ⟨w.heap.size + 1, 0, none⟩ = some (.slice a' xs'.length c') := fun p => p.cell (K0.out.nth 1 rfl).1 (K0.out.nth 1 rfl).2.2
  have k3 : ∀ p : Bw W.heap.size W, p.wd.cell? ⟨w.heap.size + 1, 1, none⟩ = some (.slice b' ys'.length d') := fun p => p.cell (K0.out.nth 1 rfl).2.1 (K0.out.nth 1 rfl).2.2
  have C1 := Lib.hid (fun p : Bw W.heap.size W => impl_ValidSteps a b c d xs ys p.wd ((K0.out.fs hs).below p.h) ((K0.out.fs ht).below p.h) hl hl2)
  have C2 := Lib.hid (fun p : Bw W.heap.size W => impl_ValidSteps a' b' c' d' xs' ys' p.wd ((K0.out.fs hs').below p.h) ((K0.out.fs ht').below p.h) hl3 hl4)
  rw [hva] at C1
  rw [hvb] at C2
  have C3 := Lib.hid (fun p : Bw W.heap.size W => (impl_IsFinite g p.wd).mono fun _ _ h => h.b)
  rw [hgf] at C3
  have hgl : (FloatKind.f32.format.order g 0 == some .lt || FloatKind.f32.format.order g 0 == some .eq) = true := by have e := not_leq hgf; unfold posC at hg; rw [hgf, Bool.true_and] at hg; rw [hg] at e; generalize (FloatKind.f32.format.order g 0 == some .lt || FloatKind.f32.format.order g 0 == some .eq) = z at e ⊢; cases z <;> simp_all
  clear hs ht hs' ht' hl hl2 hl3 hl4
  go_enter Try.func23, Try.ntmps23
  go_wp2_with fail
  change Code.wp _ _ _ _ (Wj w (.slice a xs.length c) (.slice _ ys.length d) (.slice a' xs'.length c') (.slice _ ys'.length d'))
  rw [← hW]
  clear hW
  refine wp_region_below W.heap.size (by kernel_rfl) (by kernel_rfl) ?_
  repeat (go_big_quiet_step (first
    | (go_at_call_of 11 a; exact Calls.bw (Nat.le_refl _) (C1.out _))
    | (go_at_call_of 11 a'; exact Calls.bw (Nat.le_refl _) (C2.out _))
    | (go_at_call 34; exact Calls.bw (Nat.le_refl _) (C3.out _))
    | (go_at_call 42; exact Calls.bw (Nat.le_refl _) (C4.out _))))
  refine wpQuiet_nil ?_
  rintro _ ⟨p, rfl⟩
  have q0 : p.wd.cell? ⟨w.heap.size + 2, 0, none⟩ = some (.slice none 0 0) := p.cell (K0.out.nth 0 rfl).1 (K0.out.nth 0 rfl).2.2
  have q1 : p.wd.cell? ⟨w.heap.size + 2, 1, none⟩ = some (.slice none 0 0) := p.cell (K0.out.nth 0 rfl).2.1 (K0.out.nth 0 rfl).2.2
  have z0 : p.wd.frozen? ⟨w.heap.size + 2, 0, none⟩ = false := (p.h.frozen (p := ⟨w.heap.size + 2, 0, none⟩) (K0.out.nth 0 rfl).2.2).trans Z0.out.1
  have z1 : p.wd.frozen? ⟨w.heap.size + 2, 1, none⟩ = false := (p.h.frozen (p := ⟨w.heap.size + 2, 1, none⟩) (K0.out.nth 0 rfl).2.2).trans Z0.out.2
  clear k0 k1 k2 k3
  go_wp2
  refine bodyPost_ret (v := .tuple #[.agg #[.slice none 0 0, .slice none 0 0], .bool false]) (by simp [results, Try.results23, go_sem, q0, q1]) rfl ?_
  exact jn_bad_end K0.out p.h _ (by omega)
set_option maxHeartbeats 4000000 in
theorem impl_JoinSteps_bad5 (a b a' b' : Option Addr) (c d c' d' g : Nat) (xs ys xs' ys' : List Nat) (w : World) (hs : Fs w a xs) (ht : Fs w b ys) (hs' : Fs w a' xs') (ht' : Fs w b' ys') (hl : xs.length ≤ 1048576) (hl2 : ys.length ≤ 1048576) (hl3 : xs'.length ≤ 1048576) (hl4 : ys'.length ≤ 1048576) (hva : vsB xs ys = true) (hvb : vsB xs' ys' = true) (hg : posC (cn .f32 g) = true) (h0 : xs = []) :
    Calls Try.prog 23 #[.agg #[.slice a xs.length c, .slice b ys.length d], .agg #[.slice a' xs'.length c', .slice b' ys'.length d'], .float .f32 g] w (RetSt [] [] false w) := by
  obtain ⟨W, hW⟩ : ∃ W, W = Wj w (.slice a xs.length c) (.slice b ys.length d) (.slice a' xs'.length c') (.slice b' ys'.length d') := ⟨_, rfl⟩
  have K0 := Lib.hid (show Kp w _ [] W from hW ▸ Wj_new w (.slice a xs.length c) (.slice b ys.length d) (.slice a' xs'.length c') (.slice b' ys'.length d'))
  have Z0 := Lib.hid (show W.frozen? ⟨w.heap.size + 2, 0, none⟩ = false ∧ W.frozen? ⟨w.heap.size + 2, 1, none⟩ = false from hW ▸ And.intro (Wj_frozen w _ _ _ _ 0) (Wj_frozen w _ _ _ _ 1))
  have hsz : w.heap.size + 3 = W.heap.size := (hW ▸ Wj_size w _ _ _ _).symm
  have k0 : ∀ p : Bw W.heap.size W, p.wd.cell? ⟨w.heap.size, 0, none⟩ = some (.slice a xs.length c) := fun p => p.cell (K0.out.nth 2 rfl).1 (K0.out.nth 2 rfl).2.2
  have k1 : ∀ p : Bw W.heap.size W, p.wd.cell? ⟨w.heap.size, 1, none⟩ = some (.slice b ys.length d) := fun p => p.cell (K0.out.nth 2 rfl).2.1 (K0.out.nth 2 rfl).2.2
  have k2 : ∀ p : Bw W.heap.size W, p.wd.cell? ⟨w.heap.size + 1, 0, none⟩ = some (.slice a' xs'.length c') := fun p => p.cell (K0.out.nth 1 rfl).1 (K0.out.nth 1 rfl).2.2
  have k3 : ∀ p : Bw W.heap.size W, p.wd.cell? ⟨w.heap.size + 1, 1, none⟩ = some (.slice b' ys'.length d') := fun p => p.cell (K0.out.nth 1 rfl).2.1 (K0.out.nth 1 rfl).2.2
  have C1 := Lib.hid (fun p : Bw W.heap.size W => impl_ValidSteps a b c d xs ys p.wd ((K0.out.fs hs).below p.h) ((K0.out.fs ht).below p.h) hl hl2)
  have C2 := Lib.hid (fun p : Bw W.heap.size W => impl_ValidSteps a' b' c' d' xs' ys' p.wd ((K0.out.fs hs').below p.h) ((K0.out.fs ht').below p.h) hl3 hl4)
  rw [hva] at C1
  rw [hvb] at C2
  have C3 := Lib.hid (fun p : Bw W.heap.size W => (impl_IsFinite g p.wd).mono fun _ _ h => h.b)
  have hgf : isFin (cn .f32 g) = true := by unfold posC at hg; simp only [Bool.and_eq_true] at hg; exact hg.1
  rw [hgf] at C3
  have hgl : (FloatKind.f32.format.order g 0 == some .lt || FloatKind.f32.format.order g 0 == some .eq) = false := by have := not_leq hgf; unfold posC at hg; rw [hgf, Bool.true_and] at hg; rw [hg] at this; simpa using this
  have e1 : ((xs.length : Int) == 0) = true := by rw [h0]; rfl
  have e2 : decide ((xs.length : Int) = 0) = true := by rw [h0]; rfl
  clear h0
  clear hs ht hs' ht' hl hl2 hl3 hl4
  go_enter Try.func23, Try.ntmps23
  go_wp2_with fail
  change Code.wp _ _ _ _ (Wj w (.slice a xs.length c) (.slice _ ys.length d) (.slice a' xs'.length c') (.slice _ ys'.length d'))
  rw [← hW]
  clear hW
  refine wp_region_below W.heap.size (by kernel_rfl) (by kernel_rfl) ?_
  repeat (go_big_quiet_step (first
    | (go_at_call_of 11 a; exact Calls.bw (Nat.le_refl _) (C1.out _))
    | (go_at_call_of 11 a'; exact Calls.bw (Nat.le_refl _) (C2.out _))
    | (go_at_call 34; exact Calls.bw (Nat.le_refl _) (C3.out _))
    | (go_at_call 42; exact Calls.bw (Nat.le_refl _) (C4.out _))))
  refine wpQuiet_nil ?_
  rintro _ ⟨p, rfl⟩
  have q0 : p.wd.cell? ⟨w.heap.size + 2, 0, none⟩ = some (.slice none 0 0) := p.cell (K0.out.nth 0 rfl).1 (K0.out.nth 0 rfl).2.2
  have q1 : p.wd.cell? ⟨w.heap.size + 2, 1, none⟩ = some (.slice none 0 0) := p.cell (K0.out.nth 0 rfl).2.1 (K0.out.nth 0 rfl).2.2
  have z0 : p.wd.frozen? ⟨w.heap.size + 2, 0, none⟩ = false := (p.h.frozen (p := ⟨w.heap.size + 2, 0, none⟩) (K0.out.nth 0 rfl).2.2).trans Z0.out.1
  have z1 : p.wd.frozen? ⟨w.heap.size + 2, 1, none⟩ = false := (p.h.frozen (p := ⟨w.heap.size + 2, 1, none⟩) (K0.out.nth 0 rfl).2.2).trans Z0.out.2
  clear k0 k1 k2 k3
  go_wp2
  refine bodyPost_ret (v := .tuple #[.agg #[.slice none 0 0, .slice none 0 0], .bool false]) (by simp [results, Try.results23, go_sem, q0, q1]) rfl ?_
  exact jn_bad_end K0.out p.h _ (by omega)
set_option maxHeartbeats 4000000 in
theorem impl_JoinSteps_bad6 (a b a' b' : Option Addr) (c d c' d' g : Nat) (xs ys xs' ys' : List Nat) (w : World) (hs : Fs w a xs) (ht : Fs w b ys) (hs' : Fs w a' xs') (ht' : Fs w b' ys') (hl : xs.length ≤ 1048576) (hl2 : ys.length ≤ 1048576) (hl3 : xs'.length ≤ 1048576) (hl4 : ys'.length ≤ 1048576) (hva : vsB xs ys = true) (hvb : vsB xs' ys' = true) (hg : posC (cn .f32 g) = true) (h0 : xs ≠ []) (h1 : xs' = []) :
    Calls Try.prog 23 #[.agg #[.slice a xs.length c, .slice b ys.length d], .agg #[.slice a' xs'.length c', .slice b' ys'.length d'], .float .f32 g] w (RetSt [] [] false w) := by
  obtain ⟨W, hW⟩ : ∃ W, W = Wj w (.slice a xs.length c) (.slice b ys.length d) (.slice a' xs'.length c') (.slice b' ys'.length d') := ⟨_, rfl⟩
  have K0 := Lib.hid (show Kp w _ [] W from hW ▸ Wj_new w (.slice a xs.length c) (.slice b ys.length d) (.slice a' xs'.length c') (.slice b' ys'.length d'))
  have Z0 := Lib.hid (show W.frozen? ⟨w.heap.size + 2, 0, none⟩ = false ∧ W.frozen? ⟨w.heap.size + 2, 1, none⟩ = false from hW ▸ And.intro (Wj_frozen w _ _ _ _ 0) (Wj_frozen w _ _ _ _ 1))
  have hsz : w.heap.size + 3 = W.heap.size := (hW ▸ Wj_size w _ _ _ _).symm
  have k0 : ∀ p : Bw W.heap.size W, p.wd.cell? ⟨w.heap.size, 0, none⟩ = some (.slice a xs.length c) := fun p => p.cell (K0.out.nth 2 rfl).1 (K0.out.nth 2 rfl).2.2
  have k1 : ∀ p : Bw W.heap.size W, p.wd.cell? ⟨w.heap.size, 1, none⟩ = some (.slice b ys.length d) := fun p => p.cell (K0.out.nth 2 rfl).2.1 (K0.out.nth 2 rfl).2.2
  have k2 : ∀ p : Bw W.heap.size W, p.wd.cell? ⟨w.heap.size + 1, 0, none⟩ = some (.slice a' xs'.length c') := fun p => p.cell (K0.out.nth 1 rfl).1 (K0.out.nth 1 rfl).2.2
  have k3 : ∀ p : Bw W.heap.size W, p.wd.cell? ⟨w.heap.size + 1, 1, none⟩ = some (.slice b' ys'.length d') := fun p => p.cell (K0.out.nth 1 rfl).2.1 (K0.out.nth 1 rfl).2.2
  have C1 := Lib.hid (fun p : Bw W.heap.size W => impl_ValidSteps a b c d xs ys p.wd ((K0.out.fs hs).below p.h) ((K0.out.fs ht).below p.h) hl hl2)
  have C2 := Lib.hid (fun p : Bw W.heap.size W => impl_ValidSteps a' b' c' d' xs' ys' p.wd ((K0.out.fs hs').below p.h) ((K0.out.fs ht').below p.h) hl3 hl4)
  rw [hva] at C1
  rw [hvb] at C2
  have C3 := Lib.hid (fun p : Bw W.heap.size W => (impl_IsFinite g p.wd).mono fun _ _ h => h.b)
  have hgf : isFin (cn .f32 g) = true := by unfold posC at hg; simp only [Bool.and_eq_true] at hg; exact hg.1
  rw [hgf] at C3
  have hgl : (FloatKind.f32.format.order g 0 == some .lt || FloatKind.f32.format.order g 0 == some .eq) = false := by have := not_leq hgf; unfold posC at hg; rw [hgf, Bool.true_and] at hg; rw [hg] at this; simpa using this
  have e1 : ((xs.length : Int) == 0) = false := by have := List.length_pos_iff.2 h0; simp; omega
  have e2 : decide ((xs.length : Int) = 0) = false := by have := List.length_pos_iff.2 h0; simp; omega
  have e3 : ((xs'.length : Int) == 0) = true := by rw [h1]; rfl
  have e4 : decide ((xs'.length : Int) = 0) = true := by rw [h1]; rfl
  clear h1
  clear hs ht hs' ht' hl hl2 hl3 hl4
  go_enter Try.func23, Try.ntmps23
  go_wp2_with fail
  change Code.wp _ _ _ _ (Wj w (.slice a xs.length c) (.slice _ ys.length d) (.slice a' xs'.length c') (.slice _ ys'.length d'))
  rw [← hW]
  clear hW
  refine wp_region_below W.heap.size (by kernel_rfl) (by kernel_rfl) ?_
  repeat (go_big_quiet_step (first
    | (go_at_call_of 11 a; exact Calls.bw (Nat.le_refl _) (C1.out _))
    | (go_at_call_of 11 a'; exact Calls.bw (Nat.le_refl _) (C2.out _))
    | (go_at_call 34; exact Calls.bw (Nat.le_refl _) (C3.out _))
    | (go_at_call 42; exact Calls.bw (Nat.le_refl _) (C4.out _))))
  refine wpQuiet_nil ?_
  rintro _ ⟨p, rfl⟩
  have q0 : p.wd.cell? ⟨w.heap.size + 2, 0, none⟩ = some (.slice none 0 0) := p.cell (K0.out.nth 0 rfl).1 (K0.out.nth 0 rfl).2.2
  have q1 : p.wd.cell? ⟨w.heap.size + 2, 1, none⟩ = some (.slice none 0 0) := p.cell (K0.out.nth 0 rfl).2.1 (K0.out.nth 0 rfl).2.2
  have z0 : p.wd.frozen? ⟨w.heap.size + 2, 0, none⟩ = false := (p.h.frozen (p := ⟨w.heap.size + 2, 0, none⟩) (K0.out.nth 0 rfl).2.2).trans Z0.out.1
  have z1 : p.wd.frozen? ⟨w.heap.size + 2, 1, none⟩ = false := (p.h.frozen (p := ⟨w.heap.size + 2, 1, none⟩) (K0.out.nth 0 rfl).2.2).trans Z0.out.2
  clear k0 k1 k2 k3
  go_wp2
  refine bodyPost_ret (v := .tuple #[.agg #[.slice none 0 0, .slice none 0 0], .bool false]) (by simp [results, Try.results23, go_sem, q0, q1]) rfl ?_
  exact jn_bad_end K0.out p.h _ (by omega)
set_option maxHeartbeats 4000000 in
theorem impl_JoinSteps_bad7 (a b a' b' : Option Addr) (c d c' d' g : Nat) (xs ys xs' ys' : List Nat) (w : World) (hs : Fs w a xs) (ht : Fs w b ys) (hs' : Fs w a' xs') (ht' : Fs w b' ys') (hl : xs.length ≤ 1048576) (hl2 : ys.length ≤ 1048576) (hl3 : xs'.length ≤ 1048576) (hl4 : ys'.length ≤ 1048576) (hva : vsB xs ys = true) (hvb : vsB xs' ys' = true) (hw2 : ∀ j, j < ys.length → ys.getD j 0 < 4294967296) (hw4 : ∀ j, j < ys'.length → ys'.getD j 0 < 4294967296) (hg : posC (cn .f32 g) = true) (h0 : xs ≠ []) (h1 : xs' ≠ []) (hS : jnS xs ys ys' = false) :
    Calls Try.prog 23 #[.agg #[.slice a xs.length c, .slice b ys.length d], .agg #[.slice a' xs'.length c', .slice b' ys'.length d'], .float .f32 g] w (RetSt [] [] false w) := by
  obtain ⟨W, hW⟩ : ∃ W, W = Wj w (.slice a xs.length c) (.slice b ys.length d) (.slice a' xs'.length c') (.slice b' ys'.length d') := ⟨_, rfl⟩
  have K0 := Lib.hid (show Kp w _ [] W from hW ▸ Wj_new w (.slice a xs.length c) (.slice b ys.length d) (.slice a' xs'.length c') (.slice b' ys'.length d'))
  have Z0 := Lib.hid (show W.frozen? ⟨w.heap.size + 2, 0, none⟩ = false ∧ W.frozen? ⟨w.heap.size + 2, 1, none⟩ = false from hW ▸ And.intro (Wj_frozen w _ _ _ _ 0) (Wj_frozen w _ _ _ _ 1))
  have hsz : w.heap.size + 3 = W.heap.size := (hW ▸ Wj_size w _ _ _ _).symm
  have k0 : ∀ p : Bw W.heap.size W, p.wd.cell? ⟨w.heap.size, 0, none⟩ = some (.slice a xs.length c) := fun p => p.cell (K0.out.nth 2 rfl).1 (K0.out.nth 2 rfl).2.2
  have k1 : ∀ p : Bw W.heap.size W, p.wd.cell? ⟨w.heap.size, 1, none⟩ = some (.slice b ys.length d) := fun p => p.cell (K0.out.nth 2 rfl).2.1 (K0.out.nth 2 rfl).2.2
  have k2 : ∀ p : Bw W.heap.size W, p.wd.cell? ⟨w.heap.size + 1, 0, none⟩ = some (.slice a' xs'.length c') := fun p => p.cell (K0.out.nth 1 rfl).1 (K0.out.nth 1 rfl).2.2
  have k3 : ∀ p : Bw W.heap.size W, p.wd.cell? ⟨w.heap.size + 1, 1, none⟩ = some (.slice b' ys'.length d') := fun p => p.cell (K0.out.nth 1 rfl).2.1 (K0.out.nth 1 rfl).2.2
  have C1 := Lib.hid (fun p : Bw W.heap.size W => impl_ValidSteps a b c d xs ys p.wd ((K0.out.fs hs).below p.h) ((K0.out.fs ht).below p.h) hl hl2)
  have C2 := Lib.hid (fun p : Bw W.heap.size W => impl_ValidSteps a' b' c' d' xs' ys' p.wd ((K0.out.fs hs').below p.h) ((K0.out.fs ht').below p.h) hl3 hl4)
  rw [hva] at C1
  rw [hvb] at C2
  have C3 := Lib.hid (fun p : Bw W.heap.size W => (impl_IsFinite g p.wd).mono fun _ _ h => h.b)
  have hgf : isFin (cn .f32 g) = true := by unfold posC at hg; simp only [Bool.and_eq_true] at hg; exact hg.1
  rw [hgf] at C3
  have hgl : (FloatKind.f32.format.order g 0 == some .lt || FloatKind.f32.format.order g 0 == some .eq) = false := by have := not_leq hgf; unfold posC at hg; rw [hgf, Bool.true_and] at hg; rw [hg] at this; simpa using this
  have e1 : ((xs.length : Int) == 0) = false := by have := List.length_pos_iff.2 h0; simp; omega
  have e2 : decide ((xs.length : Int) = 0) = false := by have := List.length_pos_iff.2 h0; simp; omega
  have e3 : ((xs'.length : Int) == 0) = false := by have := List.length_pos_iff.2 h1; simp; omega
  have e4 : decide ((xs'.length : Int) = 0) = false := by have := List.length_pos_iff.2 h1; simp; omega
  obtain ⟨b1, off1, rfl, _, hc1⟩ := (K0.out.fs ht).at (k := xs.length) (by have := (vsB_ok hva).2.1; omega)
  obtain ⟨b2, off2, rfl, _, hc2⟩ := (K0.out.fs ht').at (k := 0) (by have := (vsB_ok hvb).2.1; omega)
  have r1 : ∀ p : Bw W.heap.size W, p.wd.cell? ⟨b1, off1 + xs.length, none⟩ = some (.float .f32 (ys.getD xs.length 0)) := fun p => p.cell (hc1 xs.length (by have := (vsB_ok hva).2.1; omega)) (by assumption)
  have r2 : ∀ p : Bw W.heap.size W, p.wd.cell? ⟨b2, off2, none⟩ = some (.float .f32 (ys'.getD 0 0)) := fun p => p.cell (hc2 0 (by have := (vsB_ok hvb).2.1; omega)) (by assumption)
  have l1 : (xs.length : Int) < (ys.length : Int) := by have := (vsB_ok hva).2.1; omega
  have l2 : (0 : Int) < (ys'.length : Int) := by have := (vsB_ok hvb).2.1; omega
  have l3 : 0 < ys'.length := by have := (vsB_ok hvb).2.1; omega
  have l4 : (0 : Int) ≤ (xs.length : Int) := by omega
  clear hc1 hc2
  have C4 := Lib.hid (fun p : Bw W.heap.size W => (impl_SameNumber (ys.getD xs.length 0) (ys'.getD 0 0) (hw2 _ (by have := (vsB_ok hva).2.1; omega)) (hw4 _ l3) p.wd).mono fun _ _ h => h.b)
  rw [show decide (cn .f32 (ys.getD xs.length 0) = cn .f32 (ys'.getD 0 0)) = false from hS] at C4
  generalize ys.getD xs.length 0 = x at r1 C4
  generalize ys'.getD 0 0 = y at r2 C4
  clear hs ht hs' ht' hl hl2 hl3 hl4
  go_enter Try.func23, Try.ntmps23
  go_wp2_with fail
  change Code.wp _ _ _ _ (Wj w (.slice a xs.length c) (.slice _ ys.length d) (.slice a' xs'.length c') (.slice _ ys'.length d'))
  rw [← hW]
  clear hW
  refine wp_region_below W.heap.size (by kernel_rfl) (by kernel_rfl) ?_
  repeat (go_big_quiet_step (first
    | (go_at_call_of 11 a; exact Calls.bw (Nat.le_refl _) (C1.out _))
    | (go_at_call_of 11 a'; exact Calls.bw (Nat.le_refl _) (C2.out _))
    | (go_at_call 34; exact Calls.bw (Nat.le_refl _) (C3.out _))
    | (go_at_call 42; exact Calls.bw (Nat.le_refl _) (C4.out _))))
  refine wpQuiet_nil ?_
  rintro _ ⟨p, rfl⟩
  have q0 : p.wd.cell? ⟨w.heap.size + 2, 0, none⟩ = some (.slice none 0 0) := p.cell (K0.out.nth 0 rfl).1 (K0.out.nth 0 rfl).2.2
  have q1 : p.wd.cell? ⟨w.heap.size + 2, 1, none⟩ = some (.slice none 0 0) := p.cell (K0.out.nth 0 rfl).2.1 (K0.out.nth 0 rfl).2.2
  have z0 : p.wd.frozen? ⟨w.heap.size + 2, 0, none⟩ = false := (p.h.frozen (p := ⟨w.heap.size + 2, 0, none⟩) (K0.out.nth 0 rfl).2.2).trans Z0.out.1
  have z1 : p.wd.frozen? ⟨w.heap.size + 2, 1, none⟩ = false := (p.h.frozen (p := ⟨w.heap.size + 2, 1, none⟩) (K0.out.nth 0 rfl).2.2).trans Z0.out.2
  clear k0 k1 k2 k3
  go_wp2
  refine bodyPost_ret (v := .tuple #[.agg #[.slice none 0 0, .slice none 0 0], .bool false]) (by simp [results, Try.results23, go_sem, q0, q1]) rfl ?_
  exact jn_bad_end K0.out p.h _ (by omega)
end Go.Proofs.Ytkdojogjalkddaa
