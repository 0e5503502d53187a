/- JoinSteps of the program: good arguments. -/
import Derived.Test.YtkdojogjalkddaaJs
namespace Go.Proofs.Ytkdojogjalkddaa
set_option maxRecDepth 100000
set_option linter.unusedVariables false
open Go.RowKit

/-- a block that lies empty and may be written, and a row of two slices, each perhaps not there yet; own slices beside them -/
def Jx (A B : Value) (w0 w : World) (q r : Option Nat) (sl : List (Value × List Nat)) : Prop :=
  Ot w0 sl w ∧ (∀ k, q = some k → Bk w k (.slice none 0 0) (.slice none 0 0) ∧ w.frozen? ⟨k, 0, none⟩ = false ∧ w.frozen? ⟨k, 1, none⟩ = false ∧ w0.heap.size ≤ k ∧ ∀ s ∈ sl, s.1.ownBlock ≠ some k) ∧
    ∀ k, r = some k → w.cell? ⟨k, 0, none⟩ = some A ∧ w.cell? ⟨k, 1, none⟩ = some B ∧ k < w.heap.size
section
variable {A B : Value} {w0 w w' : World} {q r : Option Nat} {sl : List (Value × List Nat)}
theorem Jx.start (A B : Value) (w : World) : Jx A B w w none none [] := ⟨Ot.start w, by simp, by simp⟩
theorem Jx.drew (h : Jx A B w0 w q r sl) : Jx A B w0 w.drew q r sl := ⟨h.1.drew, h.2.1, h.2.2⟩
theorem Ot.laid (h : Ot w0 sl w) (X : Obj) : Ot w0 sl (w.alloc X) := h.later (below1 w X)
theorem Jx.later' (h : Jx A B w0 w q r sl) (hB : Below w.heap.size w w') : Jx A B w0 w' q r sl :=
  ⟨h.1.later hB, fun k hk => by
      obtain ⟨h1, h2, h3, h4, h5⟩ := h.2.1 k hk
      exact ⟨h1.below hB h1.2.2, (hB.frozen (p := ⟨k, 0, none⟩) h1.2.2).trans h2, (hB.frozen (p := ⟨k, 1, none⟩) h1.2.2).trans h3, h4, h5⟩,
    fun k hk => by
      obtain ⟨h1, h2, h3⟩ := h.2.2 k hk
      exact ⟨(hB.cell (p := ⟨k, 0, none⟩) h3).trans h1, (hB.cell (p := ⟨k, 1, none⟩) h3).trans h2, Nat.lt_of_lt_of_le h3 hB.size⟩⟩
theorem Jx.row (h : Jx A B w0 w q none sl) {N : Nat} (hN : w.heap.size = N) (T : TypeId) : Jx A B w0 (w.alloc (.cells #[A, B] T)) q (some N) sl := by
  have h2 := h.later' (below1 w (.cells #[A, B] T))
  refine ⟨h2.1, h2.2.1, fun k hk => ?_⟩
  obtain rfl : N = k := by injection hk
  have hb := Bk.new w A B T
  rw [hN] at hb
  exact ⟨hb.1, hb.2.1, hb.2.2⟩
theorem Jx.box (h : Jx A B w0 w none r sl) {N : Nat} (hN : w.heap.size = N) : Jx A B w0 (w.alloc (.cells #[.slice none 0 0, .slice none 0 0] 27)) (some N) r sl := by
  have h2 := h.later' (below1 w (.cells #[.slice none 0 0, .slice none 0 0] 27))
  refine ⟨h2.1, fun k hk => ?_, h2.2.2⟩
  obtain rfl : N = k := by injection hk
  subst hN
  refine ⟨Bk.new w _ _ _, World.frozen?_alloc_at _ _ _ _ rfl, World.frozen?_alloc_at _ _ _ _ rfl, h.1.1.size, fun s hs e => ?_⟩
  have := ((h.1.2.1 s hs).lt e).2
  omega
theorem Jx.call (h : Jx A B w0 w q r sl) {v : Value} {xs : List Nat} (hO : Ow w' w.heap.size v xs) (hB : Below w.heap.size w w') : Jx A B w0 w' q r ((v, xs) :: sl) := by
  have h2 := h.later' hB
  refine ⟨⟨h2.1.1, fun s hs => ?_, List.pairwise_cons.2 ⟨fun s hs k hk e => ?_, h2.1.2.2⟩⟩, fun k hk => ?_, h2.2.2⟩
  · rcases List.mem_cons.1 hs with rfl | hs
    · exact hO.base fun k hk => Nat.le_trans h.1.1.size (hO.lt hk).1
    · exact h2.1.2.1 s hs
  · have h3 := ((h.1.2.1 s hs).lt e).2
    have h4 := (hO.lt hk).1
    omega
  · obtain ⟨a1, a2, a3, a4, a5⟩ := h2.2.1 k hk
    refine ⟨a1, a2, a3, a4, fun s hs => ?_⟩
    rcases List.mem_cons.1 hs with rfl | hs
    · intro e
      have h3 := (hO.lt e).1
      have h4 := (h.2.1 k hk).1.2.2
      omega
    · exact a5 s hs
theorem Jx.base (h : Jx A B w0 w q r sl) : Below w0.heap.size w0 w := h.1.1
theorem Jx.rowAt {k : Nat} (h : Jx A B w0 w q (some k) sl) : w.cell? ⟨k, 0, none⟩ = some A ∧ w.cell? ⟨k, 1, none⟩ = some B ∧ k < w.heap.size := h.2.2 k rfl
theorem Jx.boxAt {k : Nat} (h : Jx A B w0 w (some k) r sl) : w.cell? ⟨k, 0, none⟩ = some (.slice none 0 0) ∧ w.cell? ⟨k, 1, none⟩ = some (.slice none 0 0) ∧ w.frozen? ⟨k, 0, none⟩ = false ∧ w.frozen? ⟨k, 1, none⟩ = false :=
  let ⟨a, b, c, _⟩ := h.2.1 k rfl
  ⟨a.1, a.2.1, b, c⟩
theorem Jx.fin {k : Nat} {v u : Value} {xs ys : List Nat} (h : Jx A B w0 w (some k) r [(u, ys), (v, xs)]) : Tt w0 ((w.setCell ⟨k, 0, none⟩ v).setCell ⟨k, 1, none⟩ u) k v xs u ys := by
  obtain ⟨a1, a2, a3, a4, a5⟩ := h.2.1 k rfl
  have hv := a5 (v, xs) (by simp)
  have hu := a5 (u, ys) (by simp)
  have ov := h.1.2.1 (v, xs) (by simp)
  have ou := h.1.2.1 (u, ys) (by simp)
  have hp := (List.pairwise_cons.1 h.1.2.2).1 (v, xs) (by simp)
  have g1 := grownBy_set w k 0 v
  have g2 := grownBy_set (w.setCell ⟨k, 0, none⟩ v) k 1 u
  refine ⟨(h.1.1.setCell a4 _).setCell a4 _, a4, ⟨?_, ?_, ?_⟩, ?_, ?_, (ov.kept g1 (.inr hv)).kept g2 (.inr hv), (ou.kept g1 (.inr hu)).kept g2 (.inr hu), hv, hu, fun m hm e => hp m e hm⟩
  · rw [cell_set_off (by omega)]
    exact World.cell?_setCell_same _ _ _ a1.1
  · exact World.cell?_setCell_same _ _ _ ((cell_set_off (w := w) (by omega)).trans a1.2.1)
  · have := a1.2.2; simpa using this
  · rw [World.frozen?_setCell, World.frozen?_setCell]; exact a2
  · rw [World.frozen?_setCell, World.frozen?_setCell]; exact a3
theorem Jx.finNew {v u : Value} {xs ys : List Nat} (h : Jx A B w0 w none r [(u, ys), (v, xs)]) {N : Nat} (hN : w.heap.size = N) : Tt w0 (w.alloc (.cells #[v, u] 27)) N v xs u ys := by
  subst hN
  have ov := h.1.2.1 (v, xs) (by simp)
  have ou := h.1.2.1 (u, ys) (by simp)
  have hp := (List.pairwise_cons.1 h.1.2.2).1 (v, xs) (by simp)
  refine ⟨h.1.1.alloc h.1.1.size _, h.1.1.size, Bk.new w _ _ _, World.frozen?_alloc_at _ _ _ _ rfl, World.frozen?_alloc_at _ _ _ _ rfl, ov.alloc _, ou.alloc _, fun e => ?_, fun e => ?_, fun m hm e => hp m e hm⟩
  · have := (ov.lt e).2; omega
  · have := (ou.lt e).2; omega
end
/-- an edge more -/
theorem Tt.pushE0 {w0 w : World} {o : Nat} {ve vh : Value} {es hs : List Nat} (h : Tt w0 w o ve es vh hs) (x : Nat) (hl : es.length ≤ 1048576) : ∃ g' c' w', (Builtin.append_ #[22, 22] 22 #[ve, .slice (some ⟨w.heap.size, 0, none⟩) 1 1]).run Try.prog (w.alloc (.cells #[.float .f32 x] 32)) = .ok (.slice (some ⟨g', 0, none⟩) (es.length + 1) c') w' ∧
    w'.cell? ⟨o, 0, none⟩ = some ve ∧ w'.frozen? ⟨o, 0, none⟩ = false ∧ Tt w0 (w'.setCell ⟨o, 0, none⟩ (.slice (some ⟨g', 0, none⟩) (es.length + 1) c')) o (.slice (some ⟨g', 0, none⟩) (es.length + 1) c') (es ++ [x]) vh hs := by
  obtain ⟨h1, h2, h3, h4, h5, h6, h7, h8, h9, h10⟩ := h
  have hsz := h1.size
  have hF : Fs (w.alloc (.cells #[.float .f32 x] 32)) (some ⟨w.heap.size, 0, none⟩) [x] := Fs_one' w x _
  obtain ⟨v', w', hr, hO, hG, hW⟩ := run_app_src (w.alloc (.cells #[.float .f32 x] 32)) w0.heap.size ve es [x] (some ⟨w.heap.size, 0, none⟩) 1 (h6.alloc _) hF (fun q => by cases q) (by simp; omega) (by simp; omega) 22
  have hz : (w.alloc (.cells #[.float .f32 x] 32)).heap.size = w.heap.size + 1 := by simp
  have ho := h3.2.2
  have hoB : some o ≠ ve.ownBlock := fun q => h8 q.symm
  have hb : w'.heap[o]? = w.heap[o]? := (hG.block o (by omega) hoB).trans (heap_alloc_old w _ ho)
  have hc : ∀ i, w'.cell? ⟨o, i, none⟩ = w.cell? ⟨o, i, none⟩ := fun i => World.cell?_of_block hb
  have hfz : ∀ i, w'.frozen? ⟨o, i, none⟩ = w.frozen? ⟨o, i, none⟩ := fun i => World.frozen?_of_block hb
  have hv' : v'.ownBlock ≠ some o := by
    rcases hW with q | q
    · rw [q]; exact h8
    · rw [q, hz]; intro e; injection e with e; omega
  have hne : ∀ k, v'.ownBlock = some k → vh.ownBlock ≠ some k := by
    intro k hk q
    rcases hW with e | e
    · rw [e] at hk; exact h10 k hk q
    · rw [e, hz] at hk; injection hk with hk; have := (h7.lt q).2; omega
  have h7' : Ow w' w0.heap.size vh hs := (h7.alloc _).kept hG (by
    cases e : vh.ownBlock with
    | none => exact .inl rfl
    | some k => exact .inr fun q => h10 k q.symm e)
  have hB' : Below w0.heap.size w0 w' := (h1.alloc hsz _).grown hG (by show _ ≤ (w.alloc _).heap.size; simp; omega) (fun k hk => (h6.lt hk).1)
  obtain ⟨g', c', e'⟩ := slice_form hO
  have hS := grownBy_set w' o 0 v'
  subst e'
  refine ⟨g', c', w', hr, (hc 0).trans h3.1, (hfz 0).trans h4, hB'.setCell h2 _, h2, ⟨World.cell?_setCell_same _ _ _ ((hc 0).trans h3.1), ?_, ?_⟩, ?_, ?_, hO.kept hS (.inr hv'), h7'.kept hS (.inr h9), hv', h9, hne⟩
  · rw [cell_set_off (by omega)]; exact (hc 1).trans h3.2.1
  · have := hG.size; simp; omega
  · rw [World.frozen?_setCell]; exact (hfz 0).trans h4
  · rw [World.frozen?_setCell]; exact (hfz 1).trans h5
theorem jnH_all {ys ys' : List Nat} {k : Nat} (h : ys'.length = k + 1) : jnH ys ys' k = ys ++ ys'.tail := by
  unfold jnH
  congr 1
  apply List.ext_getElem
  · simp; omega
  · intro j h1 h2
    simp at h1
    simp [List.getD_eq_getElem?_getD]
    rw [List.getElem?_eq_getElem (by omega)]
    rfl
/-- what lies behind the first number of a slice -/
theorem Fs_tail {w : World} {b off : Nat} {ys : List Nat} (h : Fs w (some ⟨b, off, none⟩) ys) (hb : b < w.heap.size) : Fs w (some ⟨b, off + 1, none⟩) ys.tail := by
  refine .inr ⟨b, off + 1, rfl, hb, fun j hj => ?_⟩
  have hl : j + 1 < ys.length := by simp at hj; omega
  obtain ⟨b1, off1, e, _, hc⟩ := h.at hl
  cases e
  have := hc (j + 1) hl
  rw [show off + 1 + j = off + (j + 1) by omega]
  rw [this]
  congr 2
  rw [List.getD_eq_getElem?_getD, List.getD_eq_getElem?_getD]
  simp
end Go.Proofs.Ytkdojogjalkddaa
