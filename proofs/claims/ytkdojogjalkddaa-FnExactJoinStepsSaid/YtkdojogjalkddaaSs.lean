/- Steps as the statements have them: their size, copies, comparing them; whether they are valid. -/
import Derived.Test.YtkdojogjalkddaaRg
import Derived.Deep.RegionHeld3
namespace Go.Proofs.Ytkdojogjalkddaa
set_option maxRecDepth 100000
set_option linter.unusedVariables false
open Go.RowKit

set_option maxHeartbeats 400000 in
theorem laws_szFloat32S (a : Option Addr) (n c left : Nat) (hn : n ≤ 9223372036854775807) (hl : left ≤ 1048576) (w : World) :
    Calls Try.prog 24 #[.slice a n c, .int .i64 left] w (RetV (.int .i64 (if n ≤ left then (left : Int) - n else -1)) w) := by
  by_cases h : n ≤ left
  · rw [if_pos h]
    have h1 : (0 : Int) ≤ (left : Int) - n := by omega
    go_enter Try.func24, Try.ntmps24
    go_wp2
    go_ret
    exact RetV.mk0 rfl
  · rw [if_neg h]
    have h1 : (left : Int) - n < 0 := by omega
    go_enter Try.func24, Try.ntmps24
    go_wp2
    go_ret
    exact RetV.mk0 rfl

set_option maxHeartbeats 1000000 in
theorem laws_szSteps_small (a b : Option Addr) (n m c d left : Nat) (h : n + m ≤ left) (hl : left ≤ 1048576) (w : World) :
    Calls Try.prog 8 #[.agg #[.slice a n c, .slice b m d], .int .i64 left] w (RetVB (.int .i64 ((left - n - m : Nat) : Int)) w) := by
  have e1 := Lib.hid (show (if n ≤ left then (left : Int) - n else -1) = ((left - n : Nat) : Int) by rw [if_pos (by omega)]; omega)
  have e2 := Lib.hid (show (if m ≤ left - n then ((left - n : Nat) : Int) - m else -1) = ((left - n - m : Nat) : Int) by rw [if_pos (by omega)]; omega)
  go_enter Try.func8, Try.ntmps8
  go_wp2_with fail
  refine (laws_szFloat32S a n c left (by omega) hl _).mono ?_
  rw [e1.out]
  rintro _ _ ⟨n1, rfl, rfl⟩
  go_wp2_with fail
  refine (laws_szFloat32S b m d (left - n) (by omega) (by omega) _).mono ?_
  rw [e2.out]
  rintro _ _ ⟨n2, rfl, rfl⟩
  go_wp2
  go_ret
  exact ⟨rfl, below_drewN' ((Below.refl _ _).alloc (Nat.le_refl _) _) _⟩

set_option maxHeartbeats 1000000 in
theorem laws_szSteps_great (a b : Option Addr) (n m c d left : Nat) (h : left < n + m) (hn : n ≤ 9223372036854775807) (hm : m ≤ 9223372036854775807) (hl : left ≤ 1048576) (w : World) :
    Calls Try.prog 8 #[.agg #[.slice a n c, .slice b m d], .int .i64 left] w (RetVB (.int .i64 (-1)) w) := by
  by_cases h1 : n ≤ left
  · have e1 := Lib.hid (show (if n ≤ left then (left : Int) - n else -1) = ((left - n : Nat) : Int) by rw [if_pos (by omega)]; omega)
    have e2 := Lib.hid (show (if m ≤ left - n then ((left - n : Nat) : Int) - m else -1) = -1 by rw [if_neg (by omega)])
    go_enter Try.func8, Try.ntmps8
    go_wp2_with fail
    refine (laws_szFloat32S a n c left (by omega) hl _).mono ?_
    rw [e1.out]
    rintro _ _ ⟨n1, rfl, rfl⟩
    go_wp2_with fail
    refine (laws_szFloat32S b m d (left - n) (by omega) (by omega) _).mono ?_
    rw [e2.out]
    rintro _ _ ⟨n2, rfl, rfl⟩
    go_wp2
    go_ret
    exact ⟨rfl, below_drewN' ((Below.refl _ _).alloc (Nat.le_refl _) _) _⟩
  · have e1 := Lib.hid (show (if n ≤ left then (left : Int) - n else -1) = -1 by rw [if_neg h1])
    go_enter Try.func8, Try.ntmps8
    go_wp2_with fail
    refine (laws_szFloat32S a n c left (by omega) hl _).mono ?_
    rw [e1.out]
    rintro _ _ ⟨n1, rfl, rfl⟩
    go_wp2
    go_ret
    exact ⟨rfl, below_drewN' ((Below.refl _ _).alloc (Nat.le_refl _) _) _⟩

theorem bcell {W w1 : World} (hb : Below W.heap.size W w1) : (∀ b o, b < W.heap.size → w1.cell? ⟨b, o, none⟩ = W.cell? ⟨b, o, none⟩) ∧ (∀ b o, b < W.heap.size → w1.frozen? ⟨b, o, none⟩ = W.frozen? ⟨b, o, none⟩) :=
  ⟨fun b o h => hb.cell (p := ⟨b, o, none⟩) h, fun b o h => hb.frozen (p := ⟨b, o, none⟩) h⟩
theorem below3 (w : World) (a b c : Obj) : Below w.heap.size w (((w.alloc a).alloc b).alloc c) := (((Below.refl _ _).alloc (Nat.le_refl _) _).alloc (by simp) _).alloc (by simp; omega) _

section
variable (w : World) (A B C : Array Value) (T U V : TypeId) (i : Nat)
theorem cell3_0 : (((w.alloc (.cells A T)).alloc (.cells B U)).alloc (.cells C V)).cell? ⟨w.heap.size, i, none⟩ = A[i]? := by
  rw [World.cell?_alloc_past _ _ _ (by simp; omega), World.cell?_alloc_past _ _ _ (by simp), World.cell?_alloc_at _ _ _ _ rfl]
theorem cell3_1 : (((w.alloc (.cells A T)).alloc (.cells B U)).alloc (.cells C V)).cell? ⟨w.heap.size + 1, i, none⟩ = B[i]? := by
  rw [World.cell?_alloc_past _ _ _ (by simp), World.cell?_alloc_at _ _ _ _ (by simp)]
theorem cell3_2 : (((w.alloc (.cells A T)).alloc (.cells B U)).alloc (.cells C V)).cell? ⟨w.heap.size + 1 + 1, i, none⟩ = C[i]? := by
  rw [World.cell?_alloc_at _ _ _ _ (by simp)]
theorem frozen3_1 : (((w.alloc (.cells A T)).alloc (.cells B U)).alloc (.cells C V)).frozen? ⟨w.heap.size + 1, i, none⟩ = false := by
  rw [World.frozen?_alloc_past _ _ _ (by simp), World.frozen?_alloc_at _ _ _ _ (by simp)]
theorem frozen3_2 : (((w.alloc (.cells A T)).alloc (.cells B U)).alloc (.cells C V)).frozen? ⟨w.heap.size + 1 + 1, i, none⟩ = false := by
  rw [World.frozen?_alloc_at _ _ _ _ (by simp)]
end
section
variable {w : World} {b b' i j : Nat} {v : Value}
theorem cell_set_off (h : i ≠ j) : (w.setCell ⟨b, i, none⟩ v).cell? ⟨b, j, none⟩ = w.cell? ⟨b, j, none⟩ := World.cell?_setCell_other w _ _ _ (fun e => h (by injection e))
theorem cell_set_blk (h : b ≠ b') : (w.setCell ⟨b, i, none⟩ v).cell? ⟨b', j, none⟩ = w.cell? ⟨b', j, none⟩ := World.cell?_setCell_other w _ _ _ (fun e => h (by injection e))
end
theorem Rw.other {w : World} {b : Nat} {xs : List Nat} (h : Rw w b xs) {g : Nat} (hne : g ≠ b) (j : Nat) (u : Value) : Rw (w.setCell ⟨g, j, none⟩ u) b xs := by
  unfold Rw at h ⊢
  rw [heap_setCell_other w ⟨g, j, none⟩ b u (fun q => hne q.symm)]; exact h

/-- steps of blocks of their own -/
def RetSteps (xs ys : List Nat) (w : World) (e : Ending) (w' : World) : Prop :=
  ∃ g h, e = .returned (.agg #[.slice (some ⟨g, 0, none⟩) xs.length xs.length, .slice (some ⟨h, 0, none⟩) ys.length ys.length]) ∧ w.heap.size ≤ g ∧ w.heap.size ≤ h ∧ g ≠ h ∧ Rw w' g xs ∧ Rw w' h ys ∧ Below w.heap.size w w'

set_option maxHeartbeats 2000000 in
theorem laws_toSteps (a b : Option Addr) (c d : Nat) (xs ys : List Nat) (w : World) (hs : Fs w a xs) (ht : Fs w b ys) (hl : xs.length ≤ 1048576) (hl2 : ys.length ≤ 1048576) :
    Calls Try.prog 10 #[.agg #[.slice a xs.length c, .slice b ys.length d]] w (RetSteps xs ys w) := by
  have HS := Lib.hid hs
  have HT := Lib.hid ht
  clear hs ht
  go_enter Try.func10, Try.ntmps10
  go_wp2_with fail
  refine (laws_toFloat32S a c xs _ (HS.out.below (below3 _ _ _ _)) hl).mono ?_
  rintro _ w1 ⟨g, rfl, hg, hR1, hB1⟩
  have z1 : w.heap.size + 3 ≤ w1.heap.size := by have := hB1.size; simp at this; omega
  have zg : w.heap.size + 3 ≤ g := by simp at hg; omega
  have k0 : w1.cell? ⟨w.heap.size, 1, none⟩ = some (.slice b ys.length d) := (hB1.cell (p := ⟨w.heap.size, 1, none⟩) (by simp; omega)).trans (cell3_0 ..)
  have k1 : w1.cell? ⟨w.heap.size + 1 + 1, 0, none⟩ = some (.slice none 0 0) := (hB1.cell (p := ⟨w.heap.size + 1 + 1, 0, none⟩) (by simp)).trans (cell3_2 ..)
  have k2 : w1.cell? ⟨w.heap.size + 1 + 1, 1, none⟩ = some (.slice none 0 0) := (hB1.cell (p := ⟨w.heap.size + 1 + 1, 1, none⟩) (by simp)).trans (cell3_2 ..)
  have f1 : w1.frozen? ⟨w.heap.size + 1 + 1, 0, none⟩ = false := (hB1.frozen (p := ⟨w.heap.size + 1 + 1, 0, none⟩) (by simp)).trans (frozen3_2 ..)
  have f2 : w1.frozen? ⟨w.heap.size + 1 + 1, 1, none⟩ = false := (hB1.frozen (p := ⟨w.heap.size + 1 + 1, 1, none⟩) (by simp)).trans (frozen3_2 ..)
  have k3 : w1.cell? ⟨w.heap.size + 1, 0, none⟩ = some (.slice none 0 0) := (hB1.cell (p := ⟨w.heap.size + 1, 0, none⟩) (by simp)).trans (cell3_1 ..)
  have k4 : w1.cell? ⟨w.heap.size + 1, 1, none⟩ = some (.slice none 0 0) := (hB1.cell (p := ⟨w.heap.size + 1, 1, none⟩) (by simp)).trans (cell3_1 ..)
  have f3 : w1.frozen? ⟨w.heap.size + 1, 0, none⟩ = false := (hB1.frozen (p := ⟨w.heap.size + 1, 0, none⟩) (by simp)).trans (frozen3_1 ..)
  have f4 : w1.frozen? ⟨w.heap.size + 1, 1, none⟩ = false := (hB1.frozen (p := ⟨w.heap.size + 1, 1, none⟩) (by simp)).trans (frozen3_1 ..)
  have hBw := Lib.hid ((below3 w _ _ _).trans (hB1.mono (by simp; omega)))
  have H1 := Lib.hid hR1
  clear hR1 hB1 hg
  go_wp2_with fail
  generalize hW : w1.setCell ⟨w.heap.size + 1 + 1, 0, none⟩ (.slice (some ⟨g, 0, none⟩) xs.length xs.length) = W2
  have HW := Lib.hid hW
  have sW : W2.heap.size = w1.heap.size := by rw [← hW]; simp
  have g0 : W2.cell? ⟨w.heap.size + 1 + 1, 0, none⟩ = some (.slice (some ⟨g, 0, none⟩) xs.length xs.length) := by rw [← hW]; exact World.cell?_setCell_same _ _ _ k1
  have g1 : W2.cell? ⟨w.heap.size + 1 + 1, 1, none⟩ = some (.slice none 0 0) := by rw [← hW, cell_set_off (by omega)]; exact k2
  have g3 : W2.cell? ⟨w.heap.size + 1, 0, none⟩ = some (.slice none 0 0) := by rw [← hW, cell_set_blk (by omega)]; exact k3
  have g4 : W2.cell? ⟨w.heap.size + 1, 1, none⟩ = some (.slice none 0 0) := by rw [← hW, cell_set_blk (by omega)]; exact k4
  have i2 : W2.frozen? ⟨w.heap.size + 1 + 1, 1, none⟩ = false := by rw [← hW, World.frozen?_setCell]; exact f2
  have i3 : W2.frozen? ⟨w.heap.size + 1, 0, none⟩ = false := by rw [← hW, World.frozen?_setCell]; exact f3
  have i4 : W2.frozen? ⟨w.heap.size + 1, 1, none⟩ = false := by rw [← hW, World.frozen?_setCell]; exact f4
  have HR := Lib.hid (show Rw W2 g xs by rw [← hW]; exact H1.out.other (by omega) _ _)
  have HB := Lib.hid (show Below w.heap.size w W2 by rw [← hW]; exact hBw.out.setCell (by simp; omega) _)
  have z2 : w.heap.size + 3 ≤ W2.heap.size := by omega
  have zg2 : g < W2.heap.size := HR.out.lt
  clear hW sW k1 k2 k3 k4 f1 f2 f3 f4 hBw H1
  refine (laws_toFloat32S b d ys _ (HT.out.below HB.out) hl2).mono ?_
  rintro _ w2 ⟨h, rfl, hh, hR2, hB2⟩
  have zh : g < h := by omega
  have z3 := hB2.size
  have q0 : w2.cell? ⟨w.heap.size + 1 + 1, 0, none⟩ = some (.slice (some ⟨g, 0, none⟩) xs.length xs.length) := (hB2.cell (p := ⟨w.heap.size + 1 + 1, 0, none⟩) (by show w.heap.size + 1 + 1 < W2.heap.size; omega)).trans g0
  have q1 : w2.cell? ⟨w.heap.size + 1 + 1, 1, none⟩ = some (.slice none 0 0) := (hB2.cell (p := ⟨w.heap.size + 1 + 1, 1, none⟩) (by show w.heap.size + 1 + 1 < W2.heap.size; omega)).trans g1
  have q3 : w2.cell? ⟨w.heap.size + 1, 0, none⟩ = some (.slice none 0 0) := (hB2.cell (p := ⟨w.heap.size + 1, 0, none⟩) (by show w.heap.size + 1 < W2.heap.size; omega)).trans g3
  have q4 : w2.cell? ⟨w.heap.size + 1, 1, none⟩ = some (.slice none 0 0) := (hB2.cell (p := ⟨w.heap.size + 1, 1, none⟩) (by show w.heap.size + 1 < W2.heap.size; omega)).trans g4
  have j2 : w2.frozen? ⟨w.heap.size + 1 + 1, 1, none⟩ = false := (hB2.frozen (p := ⟨w.heap.size + 1 + 1, 1, none⟩) (by show w.heap.size + 1 + 1 < W2.heap.size; omega)).trans i2
  have j3 : w2.frozen? ⟨w.heap.size + 1, 0, none⟩ = false := (hB2.frozen (p := ⟨w.heap.size + 1, 0, none⟩) (by show w.heap.size + 1 < W2.heap.size; omega)).trans i3
  have j4 : w2.frozen? ⟨w.heap.size + 1, 1, none⟩ = false := (hB2.frozen (p := ⟨w.heap.size + 1, 1, none⟩) (by show w.heap.size + 1 < W2.heap.size; omega)).trans i4
  have HR2 := Lib.hid (And.intro (HR.out.below hB2) hR2)
  have HB2 := Lib.hid (HB.out.trans (hB2.mono (by omega)))
  clear hB2 hR2 g0 g1 g3 g4 i2 i3 i4 HB HR
  go_wp2
  refine bodyPost_ret (v := .agg #[.slice (some ⟨g, 0, none⟩) xs.length xs.length, .slice (some ⟨h, 0, none⟩) ys.length ys.length]) (by simp [results, Try.results10, go_sem, q3, q4]) rfl ?_
  refine ⟨g, h, rfl, by omega, by omega, by omega, ?_, ?_, ?_⟩
  · exact ((HR2.out.1.other (by omega) _ _).other (by omega) _ _).other (by omega) _ _
  · exact ((HR2.out.2.other (by omega) _ _).other (by omega) _ _).other (by omega) _ _
  · exact ((HB2.out.setCell (by show _ ≤ w.heap.size + 1 + 1; omega) _).setCell (by show _ ≤ w.heap.size + 1; omega) _).setCell (by show _ ≤ w.heap.size + 1; omega) _

theorem below2 (w : World) (a b : Obj) : Below w.heap.size w ((w.alloc a).alloc b) := ((Below.refl _ _).alloc (Nat.le_refl _) _).alloc (by simp) _
theorem below1 (w : World) (a : Obj) : Below w.heap.size w (w.alloc a) := (Below.refl _ _).alloc (Nat.le_refl _) _

set_option maxHeartbeats 1000000 in
theorem laws_eqSteps (a b a' b' : Option Addr) (c d c' d' : Nat) (xs ys xs' ys' : List Nat) (w : World) (hs : Fs w a xs) (ht : Fs w b ys) (hs' : Fs w a' xs') (ht' : Fs w b' ys') (hl : xs.length ≤ 1048576) (hl2 : ys.length ≤ 1048576)
    (hn : xs'.length = xs.length) (hm : ys'.length = ys.length) (hw : ∀ j, j < xs.length → xs.getD j 0 < 4294967296) (hw2 : ∀ j, j < ys.length → ys.getD j 0 < 4294967296)
    (he : ∀ j, j < xs.length → cn .f32 (xs.getD j 0) = cn .f32 (xs'.getD j 0)) (he2 : ∀ j, j < ys.length → cn .f32 (ys.getD j 0) = cn .f32 (ys'.getD j 0)) :
    Calls Try.prog 12 #[.agg #[.slice a xs.length c, .slice b ys.length d], .agg #[.slice a' xs'.length c', .slice b' ys'.length d']] w (RetVB (.bool true) w) := by
  have HS := Lib.hid (And.intro hs hs')
  have HT := Lib.hid (And.intro ht ht')
  have HE := Lib.hid (And.intro hw he)
  have HE2 := Lib.hid (And.intro hw2 he2)
  have HN := Lib.hid (And.intro hn hm)
  clear hs ht hs' ht' hw hw2 he he2 hn hm
  go_enter Try.func12, Try.ntmps12
  go_wp2_with fail
  refine (laws_eqFloat32S a a' c c' xs xs' _ (HS.out.1.below (below2 _ _ _)) (HS.out.2.below (below2 _ _ _)) (by omega) HN.out.1 HE.out.1 HE.out.2).mono ?_
  rintro _ _ ⟨n1, rfl, rfl⟩
  go_wp2_with fail
  refine (laws_eqFloat32S b b' d d' ys ys' _ ((HT.out.1.below (below2 _ _ _)).drewN _) ((HT.out.2.below (below2 _ _ _)).drewN _) (by omega) HN.out.2 HE2.out.1 HE2.out.2).mono ?_
  rintro _ _ ⟨n2, rfl, rfl⟩
  go_wp2
  go_ret
  exact ⟨rfl, below_drewN' (below2 _ _ _) _⟩

/-! whether steps are valid -/
def ascP (xs : List Nat) (i : Nat) : Bool := gtC (cn .f32 (xs.getD (i + 1) 0)) (cn .f32 (xs.getD i 0))
def ascB (xs : List Nat) : Bool := (List.range (xs.length - 1)).all (ascP xs)
theorem range_snoc_all (p : Nat → Bool) (k : Nat) : (List.range (k + 1)).all p = ((List.range k).all p && p k) := by rw [List.range_succ, List.all_append]; simp
theorem range_bad (p : Nat → Bool) {k n : Nat} (h : k < n) (hp : p k = false) : (List.range n).all p = false := by
  rw [Bool.eq_false_iff]
  intro ha
  rw [List.all_eq_true.1 ha k (List.mem_range.2 h)] at hp
  cases hp
theorem fin_at {xs : List Nat} (h : allFin xs = true) {j : Nat} (hj : j < xs.length) : isFin (cn .f32 (xs.getD j 0)) = true := by
  cases hp : isFin (cn .f32 (xs.getD j 0)) with
  | true => rfl
  | false => rw [allFin, all_bad (fun x => isFin (cn .f32 x)) xs j hj hp] at h; cases h
theorem fin_cn {x : Nat} (h : isFin (cn .f32 x) = true) : cn .f32 x = some x := by
  rcases cn_cases .f32 x with c | c
  · rw [c] at h; cases h
  · exact c
theorem leq_fin {x y : Nat} (hx : isFin (cn .f32 x) = true) (hy : isFin (cn .f32 y) = true) {g : Bool} (hg : gtC (cn .f32 x) (cn .f32 y) = g) : (FloatKind.f32.format.order x y == some .lt || FloatKind.f32.format.order x y == some .eq) = !g := by
  rw [← hg, gtC, ← order_cord]
  obtain ⟨o, ho⟩ := cord_total .f32 x y (fin_cn hx) (fin_cn hy)
  rw [ho]
  cases o <;> rfl

set_option maxHeartbeats 2000000 in
theorem impl_ascends (a : Option Addr) (cap : Nat) (xs : List Nat) (w : World) (hs : Fs w a xs) (hl : xs.length ≤ 1048577) :
    Calls Try.prog 28 #[.slice a xs.length cap] w (RetV (.bool (ascB xs)) w) := by
  have HS := Lib.hid hs
  clear hs
  go_enter Try.func28, Try.ntmps28
  go_wp2
  go_loopw [3] (fun i wr => ∃ j : Nat, j ≤ xs.length - 1 ∧ i = .int .i64 (j + 1) ∧ Hid ((List.range j).all (ascP xs) = true) ∧ Hid (Dr w wr)) (fun i _ => xs.length - (intOf i).toNat)
  case atStart => exact ⟨0, by omega, rfl, rfl, 0, rfl⟩
  case round =>
    obtain ⟨j, hj, rfl, hA, hR⟩ := hrel
    by_cases hlt : j + 1 < xs.length
    · obtain ⟨b, off, rfl, _, hc⟩ := HS.out.at hlt
      have h1 : wr.cell? ⟨b, off + (j + 1), none⟩ = some (.float .f32 (xs.getD (j + 1) 0)) := by
        obtain ⟨nq, e⟩ := hR.out
        rw [e]; exact hc (j + 1) hlt
      have h2 : wr.cell? ⟨b, off + j, none⟩ = some (.float .f32 (xs.getD j 0)) := by
        obtain ⟨nq, e⟩ := hR.out
        rw [e]; exact hc j (by omega)
      clear hc
      have hki : ((j : Int) + 1) < (xs.length : Int) := by omega
      cases hg : ascP xs j with
      | true =>
        have G := Lib.hid hg
        have ho : (FloatKind.f32.format.order (xs.getD (j + 1) 0) (xs.getD j 0) == some .gt) = true := by rw [order_cord]; exact hg
        clear hg
        generalize xs.getD (j + 1) 0 = x at h1 ho
        generalize xs.getD j 0 = y at h2 ho
        go_wp2
        go_quiet (fail)
        go_wp2
        go_roundw
        case rel => exact ⟨j + 1, by omega, by go_num, Lib.hid (by rw [range_snoc_all, hA.out, G.out]; rfl), Dr.drewN hR.out _⟩
        case measure => simp [intOf]; omega
      | false =>
        have G := Lib.hid (show ascB xs = false from range_bad (ascP xs) (by omega) hg)
        have ho : (FloatKind.f32.format.order (xs.getD (j + 1) 0) (xs.getD j 0) == some .gt) = false := by rw [order_cord]; exact hg
        clear hg
        generalize xs.getD (j + 1) 0 = x at h1 ho
        generalize xs.getD j 0 = y at h2 ho
        go_wp2
        go_quiet (fail)
        go_wp2
        go_ret
        obtain ⟨nq, e⟩ := hR.out
        rw [e, G.out]
        exact ⟨_, rfl, World.drewN_drewN ..⟩
    · have G := Lib.hid (show ascB xs = true by unfold ascB; rw [show xs.length - 1 = j by omega]; exact hA.out)
      go_wp2
      go_ret
      obtain ⟨nq, e⟩ := hR.out
      rw [e, G.out]
      exact RetV.mk rfl

def vsB (xs ys : List Nat) : Bool := decide (xs.length ≤ 11 ∧ ys.length = xs.length + 1) && (allFin xs && (allFin ys && ascB xs))
theorem vsB_len {xs ys : List Nat} (h : ¬ (xs.length ≤ 11 ∧ ys.length = xs.length + 1)) : vsB xs ys = false := by unfold vsB; rw [decide_eq_false h]; rfl
theorem vsB_ok {xs ys : List Nat} (h : vsB xs ys = true) : xs.length ≤ 11 ∧ ys.length = xs.length + 1 ∧ allFin xs = true ∧ allFin ys = true ∧ ascB xs = true := by
  unfold vsB at h
  simp only [Bool.and_eq_true, decide_eq_true_eq] at h
  exact ⟨h.1.1, h.1.2, h.2.1, h.2.2.1, h.2.2.2⟩

set_option maxHeartbeats 4000000 in
theorem spec_l02Is (p : Nat) (a b : Option Addr) (c d : Nat) (xs ys : List Nat) (w : World) (h0 : w.cell? ⟨p, 0, none⟩ = some (.slice a xs.length c)) (h1 : w.cell? ⟨p, 1, none⟩ = some (.slice b ys.length d)) (hs : Fs w a xs) (ht : Fs w b ys) (hl : xs.length ≤ 1048576) (hl2 : ys.length ≤ 1048576) :
    Calls Try.prog 25 #[.pointer (some ⟨p, 0, none⟩)] w (RetV (.bool (vsB xs ys)) w) := by
  have HS := Lib.hid hs
  have HT := Lib.hid ht
  clear hs ht
  by_cases g1 : xs.length ≤ 11
  · have hlt : ¬ (12 : Int) ≤ (xs.length : Int) := by omega
    by_cases g2 : ys.length = xs.length + 1
    · have hne : ((ys.length : Int) != (xs.length : Int) + 1) = false := by simp; omega
      have G := Lib.hid (decide_eq_true (And.intro g1 g2))
      clear g2
      cases hx : allFin xs with
      | false =>
        have B := Lib.hid (show vsB xs ys = false by unfold vsB; rw [G.out, hx]; rfl)
        have F := Lib.hid hx
        clear hx
        go_enter Try.func25, Try.ntmps25
        go_wp2_with fail
        refine (spec_l02Finite a c xs _ HS.out (by omega)).mono ?_
        rw [F.out]
        rintro _ _ ⟨n1, rfl, rfl⟩
        go_wp2
        go_ret
        rw [B.out]
        exact RetV.mk rfl
      | true =>
        have F := Lib.hid hx
        clear hx
        cases hy : allFin ys with
        | false =>
          have B := Lib.hid (show vsB xs ys = false by unfold vsB; rw [G.out, F.out, hy]; rfl)
          have F2 := Lib.hid hy
          clear hy
          go_enter Try.func25, Try.ntmps25
          go_wp2_with fail
          refine (spec_l02Finite a c xs _ HS.out (by omega)).mono ?_
          rw [F.out]
          rintro _ _ ⟨n1, rfl, rfl⟩
          go_wp2_with fail
          refine (spec_l02Finite b d ys _ (HT.out.drewN _) (by omega)).mono ?_
          rw [F2.out]
          rintro _ _ ⟨n2, rfl, rfl⟩
          go_wp2
          go_ret
          rw [B.out]
          exact RetV.mk rfl
        | true =>
          have B := Lib.hid (show vsB xs ys = ascB xs by unfold vsB; rw [G.out, F.out, hy]; rfl)
          have F2 := Lib.hid hy
          clear hy
          go_enter Try.func25, Try.ntmps25
          go_wp2_with fail
          refine (spec_l02Finite a c xs _ HS.out (by omega)).mono ?_
          rw [F.out]
          rintro _ _ ⟨n1, rfl, rfl⟩
          go_wp2_with fail
          refine (spec_l02Finite b d ys _ (HT.out.drewN _) (by omega)).mono ?_
          rw [F2.out]
          rintro _ _ ⟨n2, rfl, rfl⟩
          go_wp2
          go_loopw [4] (fun i wr => ∃ j : Nat, j ≤ xs.length - 1 ∧ i = .int .i64 (j + 1) ∧ Hid ((List.range j).all (ascP xs) = true) ∧ Hid (Dr w wr)) (fun i _ => xs.length - (intOf i).toNat)
          case atStart => exact ⟨0, by omega, rfl, rfl, _, rfl⟩
          case round =>
            obtain ⟨j, hj, rfl, hA, hR⟩ := hrel
            by_cases hlt : j + 1 < xs.length
            · obtain ⟨bb, off, rfl, _, hc⟩ := HS.out.at hlt
              have h1 : wr.cell? ⟨bb, off + (j + 1), none⟩ = some (.float .f32 (xs.getD (j + 1) 0)) := by
                obtain ⟨nq, e⟩ := hR.out
                rw [e]; exact hc (j + 1) hlt
              have h2 : wr.cell? ⟨bb, off + j, none⟩ = some (.float .f32 (xs.getD j 0)) := by
                obtain ⟨nq, e⟩ := hR.out
                rw [e]; exact hc j (by omega)
              have hp : wr.cell? ⟨p, 0, none⟩ = some (.slice (some ⟨bb, off, none⟩) xs.length c) := by
                obtain ⟨nq, e⟩ := hR.out
                rw [e]; exact h0
              clear hc
              have hki : ((j : Int) + 1) < (xs.length : Int) := by omega
              cases hg : ascP xs j with
              | true =>
                have G := Lib.hid hg
                have ho := leq_fin (fin_at F.out hlt) (fin_at F.out (j := j) (by omega)) hg
                clear hg
                generalize xs.getD (j + 1) 0 = x at h1 ho
                generalize xs.getD j 0 = y at h2 ho
                go_wp2
                go_quiet (fail)
                go_wp2
                go_roundw
                case rel => exact ⟨j + 1, by omega, by go_num, Lib.hid (by rw [range_snoc_all, hA.out, G.out]; rfl), Dr.drewN hR.out _⟩
                case measure => simp [intOf]; omega
              | false =>
                have G := Lib.hid (show ascB xs = false from range_bad (ascP xs) (by omega) hg)
                have ho := leq_fin (fin_at F.out hlt) (fin_at F.out (j := j) (by omega)) hg
                clear hg
                generalize xs.getD (j + 1) 0 = x at h1 ho
                generalize xs.getD j 0 = y at h2 ho
                go_wp2
                go_quiet (fail)
                go_wp2
                go_ret
                obtain ⟨nq, e⟩ := hR.out
                rw [e, B.out, G.out]
                exact ⟨_, rfl, World.drewN_drewN ..⟩
            · have G := Lib.hid (show ascB xs = true by unfold ascB; rw [show xs.length - 1 = j by omega]; exact hA.out)
              go_wp2
              go_ret
              obtain ⟨nq, e⟩ := hR.out
              rw [e, B.out, G.out]
              exact RetV.mk rfl
    · have hne : ((ys.length : Int) != (xs.length : Int) + 1) = true := by simp; omega
      have B := Lib.hid (vsB_len (fun q => g2 q.2))
      clear g2
      go_enter Try.func25, Try.ntmps25
      go_wp2
      go_ret
      rw [B.out]
      exact RetV.mk0 rfl
  · have hlt : (12 : Int) ≤ (xs.length : Int) := by omega
    have B := Lib.hid (vsB_len (ys := ys) (fun q => g1 q.1))
    go_enter Try.func25, Try.ntmps25
    go_wp2
    go_ret
    rw [B.out]
    exact RetV.mk0 rfl

set_option maxHeartbeats 1000000 in
theorem spec_ValidSteps (a b : Option Addr) (c d : Nat) (xs ys : List Nat) (w : World) (hs : Fs w a xs) (ht : Fs w b ys) (hl : xs.length ≤ 1048576) (hl2 : ys.length ≤ 1048576) :
    Calls Try.prog 9 #[.agg #[.slice a xs.length c, .slice b ys.length d]] w (RetVB (.bool (vsB xs ys)) w) := by
  have HS := Lib.hid hs
  have HT := Lib.hid ht
  clear hs ht
  go_enter Try.func9, Try.ntmps9
  go_wp2_with fail
  refine (spec_l02Is w.heap.size a b c d xs ys _ (by simp) (by simp) (HS.out.below (below1 _ _)) (HT.out.below (below1 _ _)) hl hl2).mono ?_
  rintro _ _ ⟨n1, rfl, rfl⟩
  go_wp2
  go_ret
  exact ⟨rfl, below_drewN' (below1 _ _) _⟩

set_option maxHeartbeats 4000000 in
theorem impl_ValidSteps (a b : Option Addr) (c d : Nat) (xs ys : List Nat) (w : World) (hs : Fs w a xs) (ht : Fs w b ys) (hl : xs.length ≤ 1048576) (hl2 : ys.length ≤ 1048576) :
    Calls Try.prog 11 #[.agg #[.slice a xs.length c, .slice b ys.length d]] w (RetVB (.bool (vsB xs ys)) w) := by
  have HS := Lib.hid hs
  have HT := Lib.hid ht
  clear hs ht
  by_cases g1 : xs.length ≤ 11
  · have hlt : (xs.length : Int) < 12 := by omega
    by_cases g2 : ys.length = xs.length + 1
    · have hne : ((ys.length : Int) == (xs.length : Int) + 1) = true := by simp; omega
      have G := Lib.hid (decide_eq_true (And.intro g1 g2))
      clear g2
      cases hx : allFin xs with
      | false =>
        have B := Lib.hid (show vsB xs ys = false by unfold vsB; rw [G.out, hx]; rfl)
        have F := Lib.hid hx
        clear hx
        go_enter Try.func11, Try.ntmps11
        go_wp2_with fail
        refine (impl_areFinite a c xs _ (HS.out.below (below1 _ _)) (by omega)).mono ?_
        rw [F.out]
        rintro _ _ ⟨n1, rfl, rfl⟩
        go_wp2
        go_ret
        rw [B.out]
        exact ⟨rfl, below_drewN' (below1 _ _) _⟩
      | true =>
        have F := Lib.hid hx
        clear hx
        cases hy : allFin ys with
        | false =>
          have B := Lib.hid (show vsB xs ys = false by unfold vsB; rw [G.out, F.out, hy]; rfl)
          have F2 := Lib.hid hy
          clear hy
          go_enter Try.func11, Try.ntmps11
          go_wp2_with fail
          refine (impl_areFinite a c xs _ (HS.out.below (below1 _ _)) (by omega)).mono ?_
          rw [F.out]
          rintro _ _ ⟨n1, rfl, rfl⟩
          go_wp2_with fail
          refine (impl_areFinite b d ys _ ((HT.out.below (below1 _ _)).drewN _) (by omega)).mono ?_
          rw [F2.out]
          rintro _ _ ⟨n2, rfl, rfl⟩
          go_wp2
          go_ret
          rw [B.out]
          exact ⟨rfl, below_drewN' (below1 _ _) _⟩
        | true =>
          have B := Lib.hid (show vsB xs ys = ascB xs by unfold vsB; rw [G.out, F.out, hy]; rfl)
          have F2 := Lib.hid hy
          clear hy
          go_enter Try.func11, Try.ntmps11
          go_wp2_with fail
          refine (impl_areFinite a c xs _ (HS.out.below (below1 _ _)) (by omega)).mono ?_
          rw [F.out]
          rintro _ _ ⟨n1, rfl, rfl⟩
          go_wp2_with fail
          refine (impl_areFinite b d ys _ ((HT.out.below (below1 _ _)).drewN _) (by omega)).mono ?_
          rw [F2.out]
          rintro _ _ ⟨n2, rfl, rfl⟩
          go_wp2_with fail
          refine (impl_ascends a c xs _ ((HS.out.below (below1 _ _)).drewN _) (by omega)).mono ?_
          rintro _ _ ⟨n3, rfl, rfl⟩
          go_wp2
          go_ret
          rw [B.out]
          exact ⟨rfl, below_drewN' (below1 _ _) _⟩
    · have hne : ((ys.length : Int) == (xs.length : Int) + 1) = false := by simp; omega
      have B := Lib.hid (vsB_len (fun q => g2 q.2))
      clear g2
      go_enter Try.func11, Try.ntmps11
      go_wp2
      go_ret
      rw [B.out]
      exact ⟨rfl, below1 _ _⟩
  · have hlt : ¬ (xs.length : Int) < 12 := by omega
    have B := Lib.hid (vsB_len (ys := ys) (fun q => g1 q.1))
    go_enter Try.func11, Try.ntmps11
    go_wp2
    go_ret
    rw [B.out]
    exact ⟨rfl, below1 _ _⟩
end Go.Proofs.Ytkdojogjalkddaa
