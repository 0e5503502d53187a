/- What a statement that marks steps holds in memory while it runs. -/
import Derived.Test.YtkdojogjalkddaaTx
namespace Go.Proofs.Ytkdojogjalkddaa
set_option maxRecDepth 100000
set_option linter.unusedVariables false
open Go.RowKit

theorem Ow.mono {w : World} {b b' : Nat} {v : Value} {xs : List Nat} (h : Ow w b v xs) (hl : b' ≤ b) : Ow w b' v xs := by
  refine ⟨h.1, ?_⟩
  rcases h.2 with q | ⟨g, c, cur, e, h1, r⟩
  · exact .inl q
  · exact .inr ⟨g, c, cur, e, Nat.le_trans hl h1, r⟩

theorem RetSt.open {es hs : List Nat} {v : Bool} {w w' : World} {e : Ending} (h : RetSt es hs v w e w') :
    ∃ a c b d, e = .returned (.tuple #[.agg #[.slice a es.length c, .slice b hs.length d], .bool v]) ∧ Sg w' w.heap.size w'.heap.size (.slice a es.length c) es (.slice b hs.length d) hs ∧ Below w.heap.size w w' := by
  obtain ⟨ve, vh, rfl, h1, h2, h3, h4⟩ := h
  obtain ⟨a, c, rfl, _, _⟩ := h1.Fs
  obtain ⟨b, d, rfl, _, _⟩ := h2.Fs
  exact ⟨a, c, b, d, rfl, ⟨h1, h2, fun k hk => (h1.lt hk).2, fun k hk => (h2.lt hk).2, h3, Nat.le_refl _⟩, h4⟩

theorem Sg.rows {w : World} {B g h : Nat} {xs ys : List Nat} (hg : B ≤ g) (hh : B ≤ h) (hn : g ≠ h) (hR : Rw w g xs) (hR2 : Rw w h ys) (hl : xs.length ≤ 1048577) (hl2 : ys.length ≤ 1048577) :
    Sg w B w.heap.size (.slice (some ⟨g, 0, none⟩) xs.length xs.length) xs (.slice (some ⟨h, 0, none⟩) ys.length ys.length) ys := by
  have h1 := (hR.ow hl).mono hg
  have h2 := (hR2.ow hl2).mono hh
  refine ⟨h1, h2, fun k hk => (h1.lt hk).2, fun k hk => (h2.lt hk).2, ?_, Nat.le_refl _⟩
  intro k hk q
  have e1 : some g = some k := hk
  have e2 : some h = some k := q
  injection e1 with e1
  injection e2 with e2
  omega
theorem Sg.fsE {w : World} {lo hi n c : Nat} {a : Option Addr} {vh : Value} {es hs : List Nat} (h : Sg w lo hi (.slice a n c) es vh hs) : Fs w a es := Ow.Fs' h.1
theorem Sg.fsH {w : World} {lo hi n c : Nat} {a : Option Addr} {ve : Value} {es hs : List Nat} (h : Sg w lo hi ve es (.slice a n c) hs) : Fs w a hs := Ow.Fs' h.2.1

/-- since w0 nothing of what was there has turned; blocks that hold structs; segments that hold steps -/
def Sl (w0 : World) (bx : List (Nat × Value × Value)) (sg : List (Nat × Nat × Value × List Nat × Value × List Nat)) (w : World) : Prop :=
  Below w0.heap.size w0 w ∧ (∀ t ∈ bx, Bk w t.1 t.2.1 t.2.2) ∧ ∀ s ∈ sg, Sg w s.1 s.2.1 s.2.2.1 s.2.2.2.1 s.2.2.2.2.1 s.2.2.2.2.2

section
variable {w0 w w' : World} {bx : List (Nat × Value × Value)} {sg sg' : List (Nat × Nat × Value × List Nat × Value × List Nat)}
theorem Sl.start (w : World) : Sl w [] [] w := ⟨Below.refl _ _, by simp, by simp⟩
theorem Sl.base (h : Sl w0 bx sg w) : Below w0.heap.size w0 w := h.1
theorem Sl.nth (h : Sl w0 bx sg w) (i : Nat) {p : Nat} {u v : Value} (hm : bx[i]? = some (p, u, v)) : Bk w p u v := h.2.1 (p, u, v) (List.mem_of_getElem? hm)
theorem Sl.seg (h : Sl w0 bx sg w) (i : Nat) {lo hi : Nat} {ve vh : Value} {es hs : List Nat} (hm : sg[i]? = some (lo, hi, ve, es, vh, hs)) : Sg w lo hi ve es vh hs := h.2.2 (lo, hi, ve, es, vh, hs) (List.mem_of_getElem? hm)
theorem Sl.later (h : Sl w0 bx sg w) (hb : Below w.heap.size w w') : Sl w0 bx sg w' :=
  ⟨h.1.trans (hb.mono h.1.size), fun t ht => (h.2.1 t ht).below hb (h.2.1 t ht).2.2, fun s hs => (h.2.2 s hs).later hb⟩
theorem Sl.drewN (h : Sl w0 bx sg w) (n : Nat) : Sl w0 bx sg (w.drewN n) := ⟨below_drewN' h.1 n, h.2.1, fun s hs => (h.2.2 s hs).drewN n⟩
theorem Sl.drew (h : Sl w0 bx sg w) : Sl w0 bx sg w.drew := h.drewN 1
theorem Sl.addBox (h : Sl w0 bx sg w) {p : Nat} {u v : Value} (hb : Bk w p u v) : Sl w0 ((p, u, v) :: bx) sg w :=
  ⟨h.1, fun t ht => by rcases List.mem_cons.1 ht with rfl | ht; exact hb; exact h.2.1 t ht, h.2.2⟩
theorem Sl.addSeg (h : Sl w0 bx sg w) {lo hi : Nat} {ve vh : Value} {es hs : List Nat} (hr : Sg w lo hi ve es vh hs) : Sl w0 bx ((lo, hi, ve, es, vh, hs) :: sg) w :=
  ⟨h.1, h.2.1, fun s hm => by rcases List.mem_cons.1 hm with rfl | hm; exact hr; exact h.2.2 s hm⟩
theorem Sl.new (h : Sl w0 bx sg w) (u v : Value) (T : TypeId) : Sl w0 ((w.heap.size, u, v) :: bx) sg (w.alloc (.cells #[u, v] T)) :=
  (h.later (below1 w _)).addBox (Bk.new w u v T)
theorem Sl.keep (h : Sl w0 bx sg w) (hs : sg' ⊆ sg) : Sl w0 bx sg' w := ⟨h.1, h.2.1, fun s q => h.2.2 s (hs q)⟩
theorem Sl.fs (h : Sl w0 bx sg w) {a : Option Addr} {xs : List Nat} (hf : Fs w0 a xs) : Fs w a xs := hf.below h.1
theorem Sl.mark {lo hi : Nat} (h : Sl w0 bx sg w) (hc : Ch lo hi w w') (hl : w0.heap.size ≤ lo) (hb : ∀ t ∈ bx, t.1 < lo ∨ hi ≤ t.1) (hs : ∀ s ∈ sg, s.2.1 ≤ lo ∨ hi ≤ s.1) : Sl w0 bx sg w' :=
  ⟨hc.below h.1 hl h.1.size, fun t ht => hc.bk (h.2.1 t ht) (hb t ht), fun s q => by
    rcases hs s q with r | r
    · exact (h.2.2 s q).ch hc (.inl r)
    · exact (h.2.2 s q).ch hc (.inr r)⟩
end

theorem turns (xs ys : List Nat) (hl : xs.length ≤ 1048576) (hl2 : ys.length ≤ 1048576) (hw : ∀ j, j < xs.length → xs.getD j 0 < 4294967296) (hw2 : ∀ j, j < ys.length → ys.getD j 0 < 4294967296) :
    ∃ (es hs : List Nat) (v : Bool), es.length ≤ 12 ∧ hs.length ≤ 12 ∧ ((∀ j, j < es.length → es.getD j 0 < 4294967296) ∧ ∀ j, j < hs.length → hs.getD j 0 < 4294967296) ∧
      (∀ a b c d w, Fs w a xs → Fs w b ys → Calls Try.prog 18 #[.agg #[.slice a xs.length c, .slice b ys.length d]] w (RetSt es hs v w)) ∧
      (∀ a b c d w, Fs w a xs → Fs w b ys → Calls Try.prog 19 #[.agg #[.slice a xs.length c, .slice b ys.length d]] w (RetSt es hs v w)) := by
  cases hv : vsB xs ys with
  | false =>
    exact ⟨[], [], false, by simp, by simp, ⟨by simp, by simp⟩, fun a b c d w h h' => spec_TurnSteps_bad a b c d xs ys w h h' hl hl2 hv, fun a b c d w h h' => impl_TurnSteps_bad a b c d xs ys w h h' hl hl2 hv⟩
  | true =>
    have HL := vsB_ok hv
    refine ⟨tsE xs xs.length, tsH ys ys.length, true, by rw [tsE_len]; omega, by rw [tsH_len]; omega, ⟨fun j hj => ?_, fun j hj => ?_⟩, fun a b c d w h h' => spec_TurnSteps_good a b c d xs ys w h h' hl hl2 hw hv, fun a b c d w h h' => impl_TurnSteps_good a b c d xs ys w h h' hl hl2 hw hv⟩
    · rw [tsE_len] at hj
      rw [tsE_get xs hj]
      exact ng_lt _
    · rw [tsH_len] at hj
      rw [tsH_get ys hj]
      exact hw2 _ (by omega)
end Go.Proofs.Ytkdojogjalkddaa
