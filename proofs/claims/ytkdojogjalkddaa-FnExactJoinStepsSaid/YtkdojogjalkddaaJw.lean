/- JoinSteps of both sides; what the statement on it holds in memory. -/
import Derived.Test.YtkdojogjalkddaaJv
namespace Go.Proofs.Ytkdojogjalkddaa
set_option maxRecDepth 100000
set_option linter.unusedVariables false
open Go.RowKit

theorem impl_JoinSteps (a b a' b' : Option Addr) (c d c' d' g : Nat) (xs ys xs' ys' fs ks : List Nat) (v : Bool) (w : World) (hs : Fs w a xs) (ht : Fs w b ys) (hs' : Fs w a' xs') (ht' : Fs w b' ys') (hl : xs.length ≤ 1048576) (hl2 : ys.length ≤ 1048576) (hl3 : xs'.length ≤ 1048576) (hl4 : ys'.length ≤ 1048576) (hd : ys'.length ≤ d')
    (hw1 : ∀ j, j < xs.length → xs.getD j 0 < 4294967296) (hw2 : ∀ j, j < ys.length → ys.getD j 0 < 4294967296) (hw3 : ∀ j, j < xs'.length → xs'.getD j 0 < 4294967296) (hw4 : ∀ j, j < ys'.length → ys'.getD j 0 < 4294967296) (hj : Jd xs ys xs' ys' g fs ks v) :
    Calls Try.prog 23 #[.agg #[.slice a xs.length c, .slice b ys.length d], .agg #[.slice a' xs'.length c', .slice b' ys'.length d'], .float .f32 g] w (RetSt fs ks v w) := by
  cases hb : jnB xs ys xs' ys' g with
  | true =>
    rcases hj with ⟨_, h1, h2, h3⟩ | ⟨q, _⟩
    · exact impl_JoinSteps_good a b a' b' c d c' d' g xs ys xs' ys' w hs ht hs' ht' hl hl2 hl3 hl4 hd hw1 hw2 hw3 hw4 hb v h1 fs ks h2 h3
    · rw [hb] at q; cases q
  | false =>
    obtain ⟨rfl, rfl, rfl⟩ := hj.bad hb
    cases hva : vsB xs ys with
    | false => exact impl_JoinSteps_bad1 a b a' b' c d c' d' g xs ys xs' ys' w hs ht hs' ht' hl hl2 hl3 hl4 hva
    | true =>
      cases hvb : vsB xs' ys' with
      | false => exact impl_JoinSteps_bad2 a b a' b' c d c' d' g xs ys xs' ys' w hs ht hs' ht' hl hl2 hl3 hl4 hva hvb
      | true =>
        cases hgf : isFin (cn .f32 g) with
        | false => exact impl_JoinSteps_bad3 a b a' b' c d c' d' g xs ys xs' ys' w hs ht hs' ht' hl hl2 hl3 hl4 hva hvb hgf
        | true =>
          cases hg : posC (cn .f32 g) with
          | false => exact impl_JoinSteps_bad4 a b a' b' c d c' d' g xs ys xs' ys' w hs ht hs' ht' hl hl2 hl3 hl4 hva hvb hgf hg
          | true =>
            by_cases h0 : xs = []
            · exact impl_JoinSteps_bad5 a b a' b' c d c' d' g xs ys xs' ys' w hs ht hs' ht' hl hl2 hl3 hl4 hva hvb hg h0
            · by_cases h1 : xs' = []
              · exact impl_JoinSteps_bad6 a b a' b' c d c' d' g xs ys xs' ys' w hs ht hs' ht' hl hl2 hl3 hl4 hva hvb hg h0 h1
              · refine impl_JoinSteps_bad7 a b a' b' c d c' d' g xs ys xs' ys' w hs ht hs' ht' hl hl2 hl3 hl4 hva hvb hw2 hw4 hg h0 h1 ?_
                unfold jnB at hb
                rw [hva, hvb, hg, decide_eq_true h0, decide_eq_true h1] at hb
                simpa using hb

theorem joins (xs ys xs' ys' : List Nat) (g : Nat) (l1 : xs.length ≤ 1048576) (l2 : ys.length ≤ 1048576) (l3 : xs'.length ≤ 1048576) (l4 : ys'.length ≤ 1048576)
    (hw1 : ∀ j, j < xs.length → xs.getD j 0 < 4294967296) (hw2 : ∀ j, j < ys.length → ys.getD j 0 < 4294967296) (hw3 : ∀ j, j < xs'.length → xs'.getD j 0 < 4294967296) (hw4 : ∀ j, j < ys'.length → ys'.getD j 0 < 4294967296) :
    ∃ (es hs : List Nat) (v : Bool), es.length ≤ 24 ∧ hs.length ≤ 24 ∧ ((∀ j, j < es.length → es.getD j 0 < 4294967296) ∧ ∀ j, j < hs.length → hs.getD j 0 < 4294967296) ∧
      (∀ a b c d a' b' c' d' w, Fs w a xs → Fs w b ys → Fs w a' xs' → Fs w b' ys' → Calls Try.prog 22 #[.agg #[.slice a xs.length c, .slice b ys.length d], .agg #[.slice a' xs'.length c', .slice b' ys'.length d'], .float .f32 g] w (RetSt es hs v w)) ∧
      (∀ a b c d a' b' c' d' w, ys'.length ≤ d' → Fs w a xs → Fs w b ys → Fs w a' xs' → Fs w b' ys' → Calls Try.prog 23 #[.agg #[.slice a xs.length c, .slice b ys.length d], .agg #[.slice a' xs'.length c', .slice b' ys'.length d'], .float .f32 g] w (RetSt es hs v w)) := by
  have fin : ∀ es hs v, Jd xs ys xs' ys' g es hs v → (∀ a b c d a' b' c' d' w, Fs w a xs → Fs w b ys → Fs w a' xs' → Fs w b' ys' → Calls Try.prog 22 #[.agg #[.slice a xs.length c, .slice b ys.length d], .agg #[.slice a' xs'.length c', .slice b' ys'.length d'], .float .f32 g] w (RetSt es hs v w)) ∧
      (∀ a b c d a' b' c' d' w, ys'.length ≤ d' → Fs w a xs → Fs w b ys → Fs w a' xs' → Fs w b' ys' → Calls Try.prog 23 #[.agg #[.slice a xs.length c, .slice b ys.length d], .agg #[.slice a' xs'.length c', .slice b' ys'.length d'], .float .f32 g] w (RetSt es hs v w)) := fun es hs v hj =>
    ⟨fun a b c d a' b' c' d' w h1 h2 h3 h4 => spec_JoinSteps a b a' b' c d c' d' g xs ys xs' ys' es hs v w h1 h2 h3 h4 l1 l2 l3 l4 hw1 hw2 hw3 hw4 hj,
     fun a b c d a' b' c' d' w hd h1 h2 h3 h4 => impl_JoinSteps a b a' b' c d c' d' g xs ys xs' ys' es hs v w h1 h2 h3 h4 l1 l2 l3 l4 hd hw1 hw2 hw3 hw4 hj⟩
  cases hb : jnB xs ys xs' ys' g with
  | false => exact ⟨[], [], false, by simp, by simp, ⟨by simp, by simp⟩, fin _ _ _ (.inr ⟨hb, rfl, rfl, rfl⟩)⟩
  | true =>
    obtain ⟨hva, hvb, _, h0, h1, _⟩ := jnB_parts hb
    have HA := vsB_ok hva
    have HB := vsB_ok hvb
    cases hv : vsB (jnE xs xs' (jnM xs xs' g) xs'.length) (jnH ys ys' xs'.length) with
    | false => exact ⟨[], [], false, by simp, by simp, ⟨by simp, by simp⟩, fin _ _ _ (.inl ⟨hb, hv, rfl, rfl⟩)⟩
    | true =>
      refine ⟨jnE xs xs' (jnM xs xs' g) xs'.length, jnH ys ys' xs'.length, true, by rw [jnE_len]; omega, by rw [jnH_len]; omega, ⟨jnE_lt hw1, jnH_lt hw2 hw4 (by omega)⟩, fin _ _ _ (.inl ⟨hb, hv, rfl, rfl⟩)⟩

/-- beside it a block that lies empty and may be written, perhaps not there yet -/
def Jy (w0 : World) (q : Option Nat) (bx : List (Nat × Value × Value)) (sg : List (Nat × Nat × Value × List Nat × Value × List Nat)) (w : World) : Prop :=
  Sl w0 bx sg w ∧ ∀ k, q = some k → (Bk w k (.slice none 0 0) (.slice none 0 0) ∧ w.frozen? ⟨k, 0, none⟩ = false ∧ w.frozen? ⟨k, 1, none⟩ = false) ∧ w0.heap.size ≤ k ∧ (∀ t ∈ bx, t.1 < k) ∧ ∀ s ∈ sg, s.2.1 ≤ k ∨ k + 1 ≤ s.1
section
variable {w0 w w' : World} {q : Option Nat} {bx : List (Nat × Value × Value)} {sg : List (Nat × Nat × Value × List Nat × Value × List Nat)}
theorem Jy.start (h : Sl w0 bx sg w) : Jy w0 none bx sg w := ⟨h, by simp⟩
theorem Jy.drew (h : Jy w0 q bx sg w) : Jy w0 q bx sg w.drew := ⟨h.1.drew, h.2⟩
theorem Jy.fs (h : Jy w0 q bx sg w) {a : Option Addr} {xs : List Nat} (hf : Fs w0 a xs) : Fs w a xs := h.1.fs hf
theorem Jy.nth (h : Jy w0 q bx sg w) (i : Nat) {p : Nat} {u v : Value} (hm : bx[i]? = some (p, u, v)) : Bk w p u v := h.1.nth i hm
theorem Jy.later (h : Jy w0 q bx sg w) (hB : Below w.heap.size w w') : Jy w0 q bx sg w' :=
  ⟨h.1.later hB, fun k hk => by
    obtain ⟨⟨h1, h2, h3⟩, h4, h5, h6⟩ := h.2 k hk
    exact ⟨⟨h1.below hB h1.2.2, (hB.frozen (p := ⟨k, 0, none⟩) h1.2.2).trans h2, (hB.frozen (p := ⟨k, 1, none⟩) h1.2.2).trans h3⟩, h4, h5, h6⟩⟩
theorem Jy.box (h : Jy w0 none bx sg w) {N : Nat} (hN : w.heap.size = N) : Jy w0 (some N) bx sg (w.alloc (.cells #[.slice none 0 0, .slice none 0 0] 27)) := by
  refine ⟨h.1.later (below1 w _), fun k hk => ?_⟩
  obtain rfl : N = k := by injection hk
  subst hN
  exact ⟨⟨Bk.new w _ _ _, World.frozen?_alloc_at _ _ _ _ rfl, World.frozen?_alloc_at _ _ _ _ rfl⟩, h.1.base.size, fun t ht => (h.1.2.1 t ht).2.2, fun s hs => .inl (h.1.2.2 s hs).2.2.2.2.2⟩
theorem Jy.boxAt {k : Nat} (h : Jy w0 (some k) bx sg w) : w.cell? ⟨k, 0, none⟩ = some (.slice none 0 0) ∧ w.cell? ⟨k, 1, none⟩ = some (.slice none 0 0) ∧ w.frozen? ⟨k, 0, none⟩ = false ∧ w.frozen? ⟨k, 1, none⟩ = false :=
  let ⟨⟨a, b, c⟩, _⟩ := h.2 k rfl
  ⟨a.1, a.2.1, b, c⟩
theorem Jy.called (h : Jy w0 q bx sg w) {es hs : List Nat} {v : Bool} {e : Ending} (hr : RetSt es hs v w e w') :
    ∃ a c b d n2 n3, e = .returned (.tuple #[.agg #[.slice a es.length c, .slice b hs.length d], .bool v]) ∧ Jy w0 q bx ((n2, n3, .slice a es.length c, es, .slice b hs.length d, hs) :: sg) w' ∧ n2 ≤ n3 ∧ n3 ≤ w'.heap.size ∧
      (∀ t ∈ bx, t.1 < n2) ∧ (∀ s ∈ sg, s.2.1 ≤ n2) ∧ ∀ k, q = some k → k < n2 := by
  obtain ⟨a, c, b, d, rfl, hsg, hB⟩ := hr.open
  have h2 := h.later hB
  refine ⟨a, c, b, d, w.heap.size, w'.heap.size, rfl, ⟨h2.1.addSeg hsg, fun k hk => ?_⟩, hB.size, Nat.le_refl _, fun t ht => (h.1.2.1 t ht).2.2, fun s hs => (h.1.2.2 s hs).2.2.2.2.2, fun k hk => (h.2 k hk).1.1.2.2⟩
  obtain ⟨h4, h5, h6, h7⟩ := h2.2 k hk
  refine ⟨h4, h5, h6, fun s hs => ?_⟩
  rcases List.mem_cons.1 hs with rfl | hs
  · exact .inr (h.2 k hk).1.1.2.2
  · exact h7 s hs
theorem Jy.fin {k : Nat} (h : Jy w0 (some k) bx sg w) (v u : Value) : Sl w0 ((k, v, u) :: bx) sg ((w.setCell ⟨k, 0, none⟩ v).setCell ⟨k, 1, none⟩ u) := by
  obtain ⟨⟨a1, a2, a3⟩, a4, a5, a6⟩ := h.2 k rfl
  have hc : Ch k (k + 1) w ((w.setCell ⟨k, 0, none⟩ v).setCell ⟨k, 1, none⟩ u) :=
    (grown_ch (row := some k) (grownBy_set w k 0 v) fun m hm => by injection hm with hm; omega).trans (grown_ch (row := some k) (grownBy_set _ k 1 u) fun m hm => by injection hm with hm; omega)
  refine (h.1.mark hc a4 (fun t ht => .inl (a5 t ht)) a6).addBox ⟨?_, ?_, ?_⟩
  · rw [cell_set_off (by omega)]
    exact World.cell?_setCell_same _ _ _ a1.1
  · exact World.cell?_setCell_same _ _ _ ((cell_set_off (w := w) (by omega)).trans a1.2.1)
  · have := a1.2.2; simpa using this
theorem Jy.finNew (h : Jy w0 none bx sg w) {N : Nat} (hN : w.heap.size = N) (v u : Value) : Sl w0 ((N, v, u) :: bx) sg (w.alloc (.cells #[v, u] 27)) := hN ▸ h.1.new v u _
theorem Jy.far {k : Nat} (h : Jy w0 (some k) bx sg w) (i : Nat) {p : Nat} {u v : Value} (hm : bx[i]? = some (p, u, v)) : k ≠ p := by
  have := (h.2 k rfl).2.2.1 (p, u, v) (List.mem_of_getElem? hm)
  intro e
  have e2 : p < k := this
  omega
end
/-- a segment of it is marked, and is watched no more -/
theorem Sl.marked {w0 w w' : World} {bx : List (Nat × Value × Value)} {sg sg' : List (Nat × Nat × Value × List Nat × Value × List Nat)} {lo hi : Nat} (h : Sl w0 bx sg w) (hc : Ch lo hi w w') (hs : sg' ⊆ sg) (hl : w0.heap.size ≤ lo)
    (hb : ∀ t ∈ bx, t.1 < lo ∨ hi ≤ t.1) (hg : ∀ s ∈ sg', s.2.1 ≤ lo ∨ hi ≤ s.1) : Sl w0 bx sg' w' := (h.keep hs).mark hc hl hb hg
end Go.Proofs.Ytkdojogjalkddaa
