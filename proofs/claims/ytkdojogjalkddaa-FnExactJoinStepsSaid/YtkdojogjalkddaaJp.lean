/- JoinSteps of the reference. -/
import Derived.Test.YtkdojogjalkddaaJo
namespace Go.Proofs.Ytkdojogjalkddaa
set_option maxRecDepth 100000
set_option linter.unusedVariables false
open Go.RowKit

set_option maxHeartbeats 2000000 in
theorem spec_l02Give_good (a b : Option Addr) (c d : Nat) (xs ys : List Nat) (w : World) (hs : Fs w a xs) (ht : Fs w b ys) (hl : xs.length ≤ 1048576) (hl2 : ys.length ≤ 1048576) (hv : vsB xs ys = true) :
    Calls Try.prog 51 #[.agg #[.slice a xs.length c, .slice b ys.length d]] w (RetVB (.tuple #[.agg #[.slice a xs.length c, .slice b ys.length d], .bool true]) w) := by
  have HS := Lib.hid (And.intro hs ht)
  have HV := Lib.hid hv
  have K0 := Lib.hid (two_new w (.slice a xs.length c) (.slice b ys.length d) (.slice none 0 0) (.slice none 0 0) 27 27)
  have Z0 := Lib.hid (And.intro (res_frozen w #[.slice a xs.length c, .slice b ys.length d] 27 27 #[.slice none 0 0, .slice none 0 0] 0) (res_frozen w #[.slice a xs.length c, .slice b ys.length d] 27 27 #[.slice none 0 0, .slice none 0 0] 1))
  clear hs ht hv
  go_enter Try.func51, Try.ntmps51
  go_wp2_with fail
  refine (spec_l02Is w.heap.size a b c d xs ys _ (K0.out.nth 1 rfl).1 (K0.out.nth 1 rfl).2.1 (K0.out.fs HS.out.1) (K0.out.fs HS.out.2) hl hl2).mono ?_
  rw [HV.out]
  rintro _ _ ⟨n1, rfl, rfl⟩
  generalize hWB : World.drewN _ n1 = wB
  have K1 := Lib.hid (show Kp w _ [] wB by rw [← hWB]; exact K0.out.drewN n1)
  have z0 : wB.frozen? ⟨w.heap.size + 1, 0, none⟩ = false := by rw [← hWB]; exact Z0.out.1
  have z1 : wB.frozen? ⟨w.heap.size + 1, 1, none⟩ = false := by rw [← hWB]; exact Z0.out.2
  clear hWB K0 Z0
  obtain ⟨k0, k1, k2⟩ := K1.out.nth 1 rfl
  obtain ⟨q0, q1, q2⟩ := K1.out.nth 0 rfl
  go_wp2
  refine bodyPost_ret (v := .tuple #[.agg #[.slice a xs.length c, .slice b ys.length d], .bool true]) (by simp [results, Try.results51, go_sem, q0, q1]) rfl ?_
  exact ⟨rfl, (K1.out.base.setCell (by show _ ≤ w.heap.size + 1; omega) _).setCell (by show _ ≤ w.heap.size + 1; omega) _⟩

set_option maxHeartbeats 2000000 in
theorem spec_l02Give_bad (a b : Option Addr) (c d : Nat) (xs ys : List Nat) (w : World) (hs : Fs w a xs) (ht : Fs w b ys) (hl : xs.length ≤ 1048576) (hl2 : ys.length ≤ 1048576) (hv : vsB xs ys = false) :
    Calls Try.prog 51 #[.agg #[.slice a xs.length c, .slice b ys.length d]] w (RetVB (.tuple #[.agg #[.slice none 0 0, .slice none 0 0], .bool false]) w) := by
  have HS := Lib.hid (And.intro hs ht)
  have HV := Lib.hid hv
  have K0 := Lib.hid (two_new w (.slice a xs.length c) (.slice b ys.length d) (.slice none 0 0) (.slice none 0 0) 27 27)
  have Z0 := Lib.hid (And.intro (res_frozen w #[.slice a xs.length c, .slice b ys.length d] 27 27 #[.slice none 0 0, .slice none 0 0] 0) (res_frozen w #[.slice a xs.length c, .slice b ys.length d] 27 27 #[.slice none 0 0, .slice none 0 0] 1))
  clear hs ht hv
  go_enter Try.func51, Try.ntmps51
  go_wp2_with fail
  refine (spec_l02Is w.heap.size a b c d xs ys _ (K0.out.nth 1 rfl).1 (K0.out.nth 1 rfl).2.1 (K0.out.fs HS.out.1) (K0.out.fs HS.out.2) hl hl2).mono ?_
  rw [HV.out]
  rintro _ _ ⟨n1, rfl, rfl⟩
  generalize hWB : World.drewN _ n1 = wB
  have K1 := Lib.hid (show Kp w _ [] wB by rw [← hWB]; exact K0.out.drewN n1)
  have z0 : wB.frozen? ⟨w.heap.size + 1, 0, none⟩ = false := by rw [← hWB]; exact Z0.out.1
  have z1 : wB.frozen? ⟨w.heap.size + 1, 1, none⟩ = false := by rw [← hWB]; exact Z0.out.2
  clear hWB K0 Z0
  obtain ⟨q0, q1, q2⟩ := K1.out.nth 0 rfl
  go_wp2
  refine bodyPost_ret (v := .tuple #[.agg #[.slice none 0 0, .slice none 0 0], .bool false]) (by simp [results, Try.results51, go_sem, q0, q1]) rfl ?_
  exact ⟨rfl, (K1.out.base.setCell (by show _ ≤ w.heap.size + 1; omega) _).setCell (by show _ ≤ w.heap.size + 1; omega) _⟩

/-- two numbers alone, in rows of their own -/
theorem Fs_two1 (w : World) (x y : Nat) (T U : TypeId) : Fs ((w.alloc (.cells #[.float .f32 x] T)).alloc (.cells #[.float .f32 y] U)) (some ⟨w.heap.size, 0, none⟩) [x] := (Fs_one' w x T).below (below1 _ _)
theorem Fs_two2 (w : World) (x y : Nat) (T U : TypeId) : Fs ((w.alloc (.cells #[.float .f32 x] T)).alloc (.cells #[.float .f32 y] U)) (some ⟨w.heap.size + 1, 0, none⟩) [y] := by
  have h := Fs_one' (w.alloc (.cells #[.float .f32 x] T)) y U
  rwa [World.size_alloc] at h
theorem Fs_twoA (w : World) (x y N : Nat) (T U : TypeId) (h : w.heap.size = N) : Fs ((w.alloc (.cells #[.float .f32 x] T)).alloc (.cells #[.float .f32 y] U)) (some ⟨N, 0, none⟩) [x] := h ▸ Fs_two1 w x y T U
theorem Fs_twoB (w : World) (x y N : Nat) (T U : TypeId) (h : w.heap.size + 1 = N) : Fs ((w.alloc (.cells #[.float .f32 x] T)).alloc (.cells #[.float .f32 y] U)) (some ⟨N, 0, none⟩) [y] := h ▸ Fs_two2 w x y T U
theorem smB_one {x y : Nat} : smB [x] [y] = decide (cn .f32 x = cn .f32 y) := by
  unfold smB smP
  simp

/-- the result's block, made by the call, still lies empty -/
def Aw (w wB : World) : Prop := Bk wB w.heap.size (.slice none 0 0) (.slice none 0 0) ∧ wB.frozen? ⟨w.heap.size, 0, none⟩ = false ∧ wB.frozen? ⟨w.heap.size, 1, none⟩ = false ∧ Below w.heap.size w wB
theorem aw_one (w : World) (n : Nat) : Aw w ((w.alloc (.cells #[.slice none 0 0, .slice none 0 0] 27)).drewN n) :=
  ⟨Bk.new w _ _ _, World.frozen?_alloc_at _ _ _ _ rfl, World.frozen?_alloc_at _ _ _ _ rfl, below_drewN' (below1 w _) n⟩
theorem Aw.later {w w1 w2 : World} (h : Aw w w1) (hB : Below w1.heap.size w1 w2) : Aw w w2 :=
  ⟨h.1.below hB h.1.2.2, (hB.frozen (p := ⟨w.heap.size, 0, none⟩) h.1.2.2).trans h.2.1, (hB.frozen (p := ⟨w.heap.size, 1, none⟩) h.1.2.2).trans h.2.2.1, h.2.2.2.trans (hB.mono h.2.2.2.size)⟩
theorem aw_two (w : World) (k n : Nat) (X Y : Obj) : Aw w (((((w.alloc (.cells #[.slice none 0 0, .slice none 0 0] 27)).drewN k).alloc X).alloc Y).drewN n) :=
  (aw_one w k).later (below_drewN' (below2' _ X Y) n)
theorem Aw.nil {w wB : World} (h : Aw w wB) (u u' : Value) : RetSt [] [] false w (.returned (.tuple #[.agg #[.slice none 0 0, .slice none 0 0], .bool false])) ((wB.setCell ⟨w.heap.size, 0, none⟩ u).setCell ⟨w.heap.size, 1, none⟩ u') :=
  RetSt.nil _ _ ((h.2.2.2.setCell (Nat.le_refl _) _).setCell (Nat.le_refl _) _)

set_option maxHeartbeats 4000000 in
theorem spec_l02Join_bad (p q : Nat) (a b a' b' : Option Addr) (c d c' d' g : Nat) (xs ys xs' ys' : List Nat) (w : World) (hp : Bk w p (.slice a xs.length c) (.slice b ys.length d)) (hq : Bk w q (.slice a' xs'.length c') (.slice b' ys'.length d')) (hs : Fs w a xs) (ht : Fs w b ys) (hs' : Fs w a' xs') (ht' : Fs w b' ys')
    (hv : vsB xs ys = true) (hv2 : vsB xs' ys' = true) (hw2 : ∀ j, j < ys.length → ys.getD j 0 < 4294967296) (hw4 : ∀ j, j < ys'.length → ys'.getD j 0 < 4294967296) (hb : jnB xs ys xs' ys' g = false) :
    Calls Try.prog 41 #[.pointer (some ⟨p, 0, none⟩), .pointer (some ⟨q, 0, none⟩), .float .f32 g] w (RetSt [] [] false w) := by
  have HP := Lib.hid (And.intro hp hq)
  have HS := Lib.hid (And.intro (And.intro hs ht) (And.intro hs' ht'))
  have HL := Lib.hid (And.intro (vsB_ok hv) (vsB_ok hv2))
  have HW := Lib.hid (And.intro hw2 hw4)
  have HR := Lib.hid (Bk.new w (.slice none 0 0) (.slice none 0 0) 27)
  have HF := Lib.hid (show (w.alloc (.cells #[.slice none 0 0, .slice none 0 0] 27)).frozen? ⟨w.heap.size, 0, none⟩ = false ∧ (w.alloc (.cells #[.slice none 0 0, .slice none 0 0] 27)).frozen? ⟨w.heap.size, 1, none⟩ = false from ⟨World.frozen?_alloc_at _ _ _ _ rfl, World.frozen?_alloc_at _ _ _ _ rfl⟩)
  unfold jnB at hb
  rw [hv, hv2, Bool.true_and, Bool.true_and] at hb
  clear hp hq hs ht hs' ht' hv hv2 hw2 hw4
  by_cases h0 : xs = []
  · have e0 : xs.length = 0 := by rw [h0]; rfl
    clear hb h0
    go_enter Try.func41, Try.ntmps41
    obtain ⟨k0, k1, k2⟩ := HP.out.1
    obtain ⟨j0, j1, j2⟩ := HP.out.2
    rw [e0] at k0
    go_wp2_with fail
    go_quiet (fail)
    have A2 := Lib.hid (aw_one w nq)
    generalize World.drewN _ nq = wB at A2 ⊢
    obtain ⟨⟨q0, q1, q2⟩, z0, z1, _⟩ := A2.out
    go_wp2
    refine bodyPost_ret (v := .tuple #[.agg #[.slice none 0 0, .slice none 0 0], .bool false]) (by simp [results, Try.results41, go_sem, q0, q1]) rfl ?_
    exact A2.out.nil _ _
  · by_cases h1 : xs' = []
    · have e0 : xs'.length = 0 := by rw [h1]; rfl
      have e1 : ((xs.length : Int) == 0) = false := by have := List.length_pos_iff.2 h0; simp; omega
      have e2 : decide ((xs.length : Int) = 0) = false := by have := List.length_pos_iff.2 h0; simp; omega
      clear hb h0 h1
      go_enter Try.func41, Try.ntmps41
      obtain ⟨k0, k1, k2⟩ := HP.out.1
      obtain ⟨j0, j1, j2⟩ := HP.out.2
      rw [e0] at j0
      go_wp2_with fail
      go_quiet (fail)
      have A2 := Lib.hid (aw_one w nq)
      generalize World.drewN _ nq = wB at A2 ⊢
      obtain ⟨⟨q0, q1, q2⟩, z0, z1, _⟩ := A2.out
      go_wp2
      refine bodyPost_ret (v := .tuple #[.agg #[.slice none 0 0, .slice none 0 0], .bool false]) (by simp [results, Try.results41, go_sem, q0, q1]) rfl ?_
      exact A2.out.nil _ _
    · cases hg : posC (cn .f32 g) with
      | false =>
        have e1 : ((xs.length : Int) == 0) = false := by have := List.length_pos_iff.2 h0; simp; omega
        have e2 : decide ((xs.length : Int) = 0) = false := by have := List.length_pos_iff.2 h0; simp; omega
        have e3 : ((xs'.length : Int) == 0) = false := by have := List.length_pos_iff.2 h1; simp; omega
        have e4 : decide ((xs'.length : Int) = 0) = false := by have := List.length_pos_iff.2 h1; simp; omega
        have C := Lib.hid (fun w' => hg ▸ spec_l02Above g w')
        clear hb h0 h1 hg
        go_enter Try.func41, Try.ntmps41
        obtain ⟨k0, k1, k2⟩ := HP.out.1
        obtain ⟨j0, j1, j2⟩ := HP.out.2
        go_wp2_with fail
        go_quiet ((go_at_call 49; refine Calls.quiet_of ((C.out _).mono RetV.quiet)))
        have A2 := Lib.hid (aw_one w nq)
        generalize World.drewN _ nq = wB at A2 ⊢
        obtain ⟨⟨q0, q1, q2⟩, z0, z1, _⟩ := A2.out
        go_wp2
        refine bodyPost_ret (v := .tuple #[.agg #[.slice none 0 0, .slice none 0 0], .bool false]) (by simp [results, Try.results41, go_sem, q0, q1]) rfl ?_
        exact A2.out.nil _ _
      | true =>
        have e1 : ((xs.length : Int) == 0) = false := by have := List.length_pos_iff.2 h0; simp; omega
        have e2 : decide ((xs.length : Int) = 0) = false := by have := List.length_pos_iff.2 h0; simp; omega
        have e3 : ((xs'.length : Int) == 0) = false := by have := List.length_pos_iff.2 h1; simp; omega
        have e4 : decide ((xs'.length : Int) = 0) = false := by have := List.length_pos_iff.2 h1; simp; omega
        have C := Lib.hid (fun w' => hg ▸ spec_l02Above g w')
        have S := (show decide (cn .f32 (ys.getD xs.length 0) = cn .f32 (ys'.getD 0 0)) = false by change jnS xs ys ys' = false; rw [hg, decide_eq_true h0, decide_eq_true h1] at hb; simpa using hb)
        clear hb h0 h1 hg
        obtain ⟨b1, off1, rfl, _, hc1⟩ := HS.out.1.2.at (k := xs.length) (by have := HL.out.1.2.1; omega)
        obtain ⟨b2, off2, rfl, _, hc2⟩ := HS.out.2.2.at (k := 0) (by have := HL.out.2.2.1; omega)
        have r1 := hc1 xs.length (by have := HL.out.1.2.1; omega)
        have r2 := hc2 0 (by have := HL.out.2.2.1; omega)
        have l1 : (xs.length : Int) < (ys.length : Int) := by have := HL.out.1.2.1; omega
        have l2 : (0 : Int) < (ys'.length : Int) := by have := HL.out.2.2.1; omega
        have l3 : 0 < ys'.length := by have := HL.out.2.2.1; omega
        have wx := HW.out.1 xs.length (by have := HL.out.1.2.1; omega)
        have wy := HW.out.2 0 (by have := HL.out.2.2.1; omega)
        rw [Nat.add_zero] at r2
        clear hc1 hc2
        go_enter Try.func41, Try.ntmps41
        obtain ⟨k0, k1, k2⟩ := HP.out.1
        obtain ⟨j0, j1, j2⟩ := HP.out.2
        go_wp2_with fail
        generalize ys.getD xs.length 0 = x at r1 S wx
        generalize ys'.getD 0 0 = y at r2 S wy
        have D := Lib.hid (fun a b w' h h' => smB_one.trans S ▸ spec_l01SameAll a b 1 1 [x] [y] w' h h' (by simp) (by simp) (fun j hj => by simp at hj; subst hj; exact wx) (fun j hj => by simp at hj; subst hj; exact wy))
        clear S wx wy
        go_region_held3 (fun w' => w'.cell? ⟨q, 0, none⟩ = some (.slice a' xs'.length c') ∧ w'.cell? ⟨p, 1, none⟩ = some (.slice (some ⟨b1, off1, none⟩) ys.length d) ∧ w'.cell? ⟨q, 1, none⟩ = some (.slice (some ⟨b2, off2, none⟩) ys'.length d') ∧ w'.cell? ⟨b1, off1 + xs.length, none⟩ = some (.float .f32 x) ∧ w'.cell? ⟨b2, off2, none⟩ = some (.float .f32 y)) (go_keep)
          (first | (go_at_call 49; refine (C.out _).mono ?_; rintro _ _ ⟨n1, rfl, rfl⟩) | (go_at_call 47; refine (D.out _ _ _ (by first | exact Fs_twoA _ _ _ _ _ _ (by simp) | exact Fs_twoB _ _ _ _ _ _ (by simp)) (by first | exact Fs_twoA _ _ _ _ _ _ (by simp) | exact Fs_twoB _ _ _ _ _ _ (by simp))).mono ?_; rintro _ _ ⟨n2, rfl, rfl⟩))
        all_goals
          obtain ⟨wB, A2, e⟩ : ∃ wB, Hid (Aw w wB) ∧ World.drewN _ n2 = wB := ⟨_, Lib.hid (aw_two w (1 + n1) n2 _ _), rfl⟩
          rw [e]
          clear e
          obtain ⟨⟨q0, q1, q2⟩, z0, z1, _⟩ := A2.out
          go_wp2
          refine bodyPost_ret (v := .tuple #[.agg #[.slice none 0 0, .slice none 0 0], .bool false]) (by simp [results, Try.results41, go_sem, q0, q1]) rfl ?_
          exact A2.out.nil _ _
end Go.Proofs.Ytkdojogjalkddaa
