/- StateOf of the reference. -/
import Derived.Test.YtkdojogjalkddaaSt
namespace Go.Proofs.Ytkdojogjalkddaa
set_option maxRecDepth 100000
set_option linter.unusedVariables false
open Go.RowKit

/-- the slices of a round of the reference: the state, the right sides, the middles so far -/
def StC (w wx : World) (gs cs gr cr n : Nat) (v : Value) (k : Nat) (fm fr fs : Nat → Option Nat) : Prop :=
  ∃ ms : List Nat, ms.length = k ∧ Ow wx w.heap.size v ms ∧ (∀ j, j < k → FE .f32 (ms.getD j 0) (fm j)) ∧ v.ownBlock ≠ some gs ∧ v.ownBlock ≠ some gr ∧ gs ≠ gr ∧ w.heap.size ≤ gs ∧ w.heap.size ≤ gr ∧
    Rg wx gr n cr fr ∧ Rg wx gs n cs fs ∧ Below w.heap.size w wx
section
variable {w wx : World} {gs cs gr cr n k : Nat} {v : Value} {fm fr fs : Nat → Option Nat} {j x : Nat} {c : Option Nat}
theorem StC.below (h : StC w wx gs cs gr cr n v k fm fr fs) : Below w.heap.size w wx := by obtain ⟨_, _, _, _, _, _, _, _, _, _, _, hB⟩ := h; exact hB
theorem StC.drewN (h : StC w wx gs cs gr cr n v k fm fr fs) (m : Nat) : StC w (wx.drewN m) gs cs gr cr n v k fm fr fs := by
  obtain ⟨ms, h1, h2, h3, h4, h5, h6, h7, h8, h9, h10, hB⟩ := h
  exact ⟨ms, h1, h2.drewN m, h3, h4, h5, h6, h7, h8, h9.drewN m, h10.drewN m, below_drewN' hB m⟩
theorem StC.atR (h : StC w wx gs cs gr cr n v k fm fr fs) (hj : j < n) : ∃ x, wx.cell? ⟨gr, j, none⟩ = some (.float .f32 x) ∧ FE .f32 x (fr j) ∧ wx.frozen? ⟨gr, j, none⟩ = false := by
  obtain ⟨_, _, _, _, _, _, _, _, _, h9, _⟩ := h
  exact h9.at hj
theorem StC.atS (h : StC w wx gs cs gr cr n v k fm fr fs) (hj : j < n) : ∃ x, wx.cell? ⟨gs, j, none⟩ = some (.float .f32 x) ∧ FE .f32 x (fs j) ∧ wx.frozen? ⟨gs, j, none⟩ = false := by
  obtain ⟨_, _, _, _, _, _, _, _, _, _, h10, _⟩ := h
  exact h10.at hj
/-- the middles, where there is one -/
theorem StC.form (h : StC w wx gs cs gr cr n v k fm fr fs) (hk : 0 < k) : ∃ gm cm, v = .slice (some ⟨gm, 0, none⟩) k cm ∧ ∀ j, j < k → ∃ x, wx.cell? ⟨gm, j, none⟩ = some (.float .f32 x) ∧ FE .f32 x (fm j) := by
  obtain ⟨ms, rfl, h2, h3, _⟩ := h
  obtain ⟨a, cap, e, hF, hg⟩ := h2.Fs
  obtain ⟨gm, rfl, _⟩ := hg (by intro q; rw [q] at hk; simp at hk)
  refine ⟨gm, cap, e, fun j hj => ?_⟩
  obtain ⟨b, off, e2, _, hc⟩ := hF.at hj
  cases e2
  have := hc j hj
  rw [Nat.zero_add] at this
  exact ⟨_, this, h3 j hj⟩
theorem StC.setR (h : StC w wx gs cs gr cr n v k fm fr fs) (hj : j < n) (hx : FE .f32 x c) : StC w (wx.setCell ⟨gr, j, none⟩ (.float .f32 x)) gs cs gr cr n v k fm (put fr j c) fs := by
  obtain ⟨ms, h1, h2, h3, h4, h5, h6, h7, h8, h9, h10, hB⟩ := h
  exact ⟨ms, h1, h2.kept (grownBy_set wx gr j _) (.inr h5), h3, h4, h5, h6, h7, h8, h9.set hj hx, h10.other (fun q => h6 q.symm) _ _, hB.setCell h8 _⟩
theorem StC.setS (h : StC w wx gs cs gr cr n v k fm fr fs) (hj : j < n) (hx : FE .f32 x c) : StC w (wx.setCell ⟨gs, j, none⟩ (.float .f32 x)) gs cs gr cr n v k fm fr (put fs j c) := by
  obtain ⟨ms, h1, h2, h3, h4, h5, h6, h7, h8, h9, h10, hB⟩ := h
  exact ⟨ms, h1, h2.kept (grownBy_set wx gs j _) (.inr h4), h3, h4, h5, h6, h7, h8, h9.other h6 _ _, h10.set hj hx, hB.setCell h7 _⟩
theorem StC.congr (h : StC w wx gs cs gr cr n v k fm fr fs) {fm' fr' fs' : Nat → Option Nat} (e1 : ∀ j, j < k → fm j = fm' j) (e2 : ∀ j, j < n → fr j = fr' j) (e3 : ∀ j, j < n → fs j = fs' j) : StC w wx gs cs gr cr n v k fm' fr' fs' := by
  obtain ⟨ms, h1, h2, h3, h4, h5, h6, h7, h8, h9, h10, hB⟩ := h
  exact ⟨ms, h1, h2, fun j hj => e1 j hj ▸ h3 j hj, h4, h5, h6, h7, h8, h9.congr e2, h10.congr e3, hB⟩
/-- a middle more -/
theorem StC.push (h : StC w wx gs cs gr cr n v k fm fr fs) (hk : k ≤ 48) (hx : FE .f32 x (fm k)) :
    ∃ v' w', (Builtin.append_ #[22, 22] 22 #[v, .slice (some ⟨wx.heap.size, 0, none⟩) 1 1]).run Try.prog (wx.alloc (.cells #[.float .f32 x] 32)) = .ok v' w' ∧ StC w w' gs cs gr cr n v' (k + 1) fm fr fs := by
  obtain ⟨ms, h1, h2, h3, h4, h5, h6, h7, h8, h9, h10, hB⟩ := h
  have hsz := hB.size
  have hF : Fs (wx.alloc (.cells #[.float .f32 x] 32)) (some ⟨wx.heap.size, 0, none⟩) [x] := Fs_one' wx x _
  obtain ⟨v', w', hr, hO, hG, hW⟩ := run_app_src (wx.alloc (.cells #[.float .f32 x] 32)) w.heap.size v ms [x] (some ⟨wx.heap.size, 0, none⟩) 1 (h2.alloc _) hF (fun q => by cases q) (by simp; omega) (by simp; omega) 22
  refine ⟨v', w', hr, ms ++ [x], by simp [h1], hO, fun j hj => ?_, ?_, ?_, h6, h7, h8, (h9.alloc _).kept hG h5, (h10.alloc _).kept hG h4, (hB.alloc hsz _).grown hG (by simp; omega) (fun i q => (h2.lt q).1)⟩
  · by_cases e : j < k
    · rw [List.getD_eq_getElem?_getD, List.getElem?_append_left (by omega), ← List.getD_eq_getElem?_getD]
      exact h3 j e
    · obtain rfl : j = k := by omega
      rw [List.getD_eq_getElem?_getD, List.getElem?_append_right (by omega), h1, Nat.sub_self]
      exact hx
  · rcases hW with e | e
    · rw [e]; exact h4
    · rw [e]
      have := h10.lt
      simp; omega
  · rcases hW with e | e
    · rw [e]; exact h5
    · rw [e]
      have := h9.lt
      simp; omega
end

theorem StC.atM {w wx : World} {gs cs gr cr gm cm n : Nat} {fm fr fs : Nat → Option Nat} (h : StC w wx gs cs gr cr n (.slice (some ⟨gm, 0, none⟩) n cm) n fm fr fs) {j : Nat} (hj : j < n) : ∃ x, wx.cell? ⟨gm, j, none⟩ = some (.float .f32 x) ∧ FE .f32 x (fm j) := by
  obtain ⟨g, c, e, hc⟩ := h.form (by omega)
  cases e
  exact hc j hj
theorem below2' (w : World) (a b : Obj) : Below w.heap.size w ((w.alloc a).alloc b) := ((Below.refl _ _).alloc (Nat.le_refl _) _).alloc (by simp) _
theorem st_ones {w wr : World} {v : Value} {xs : List Nat} {be en : Nat} (h : Ow wr w.heap.size v (List.replicate xs.length 1065353216)) (h1 : 1 ≤ xs.length) : ∃ gs cs, v = .slice (some ⟨gs, 0, none⟩) xs.length cs ∧ Rg wr gs xs.length cs (stF xs (cn .f32 be) (cn .f32 en) 0) ∧ w.heap.size ≤ gs := by
  obtain ⟨a, cap, e, _, hg⟩ := h.Fs
  obtain ⟨g, rfl, hle⟩ := hg (by intro q; have := congrArg List.length q; rw [List.length_replicate, List.length_nil] at this; omega)
  rw [List.length_replicate] at e
  subst e
  refine ⟨g, cap, rfl, ⟨List.replicate xs.length 1065353216, by simp, h.base (fun k hk => by simp [Value.ownBlock] at hk; omega), fun j hj => ?_⟩, hle⟩
  have : (List.replicate xs.length 1065353216).getD j 0 = 1065353216 := by simp [List.getD_eq_getElem?_getD, hj]
  rw [this]
  exact one_FE
/-- where a round of the reference begins -/
theorem st_begin {w wr : World} {gs cs n : Nat} {f fm : Nat → Option Nat} (h0 : 0 < n) (hn : n ≤ 48) (hG : Rg wr gs n cs f) (hgs : w.heap.size ≤ gs) (hB : Below w.heap.size w wr) :
    ∃ gr cr w', (Builtin.append_ #[22, 22] 22 #[.slice (some ⟨wr.heap.size + 1, 0, none⟩) 0 0, .slice (some ⟨gs, 0, none⟩) n cs]).run Try.prog ((wr.alloc (.cells #[] 32)).alloc (.cells #[] 32)) = .ok (.slice (some ⟨gr, 0, none⟩) n cr) w' ∧
      StC w w' gs cs gr cr n (.slice (some ⟨wr.heap.size, 0, none⟩) 0 0) 0 fm f f := by
  have hlt := hG.lt
  have hsz := hB.size
  obtain ⟨ys, rfl, hO, hF⟩ := hG
  have hFs := Ow.Fs' hO
  have E2 : Ow ((wr.alloc (.cells #[] 32)).alloc (.cells #[] 32)) w.heap.size (.slice (some ⟨wr.heap.size + 1, 0, none⟩) 0 0) [] := Ow_empty2 _ _ _ (by simp; omega) (by simp)
  have hFs2 : Fs ((wr.alloc (.cells #[] 32)).alloc (.cells #[] 32)) (some ⟨gs, 0, none⟩) ys := hFs.below (below2' wr _ _)
  obtain ⟨v', w', hr, hO', hGr, hW⟩ := run_app_src ((wr.alloc (.cells #[] 32)).alloc (.cells #[] 32)) w.heap.size (.slice (some ⟨wr.heap.size + 1, 0, none⟩) 0 0) [] ys (some ⟨gs, 0, none⟩) cs E2 hFs2 (fun q => by rw [q] at h0; simp at h0) (by simp; omega) (by simp; omega) 22
  obtain ⟨a2, cap2, e, _, hg⟩ := hO'.Fs
  obtain ⟨gr, rfl, hgr⟩ := hg (by intro q; simp at q; rw [q] at h0; simp at h0)
  simp only [List.nil_append] at e hO'
  subst e
  have hgr2 : gr = wr.heap.size + 1 ∨ gr = wr.heap.size + 1 + 1 := by
    rcases hW with q | q
    · left; simpa [Value.ownBlock] using q
    · right; simpa [Value.ownBlock] using q
  have hne : some (wr.heap.size + 1) ≠ some gs := by intro q; injection q with q; omega
  refine ⟨gr, cap2, w', hr, [], rfl, ?_, fun j hj => by omega, ?_, ?_, by omega, hgs, hgr, ?_, ?_, ?_⟩
  · exact ((Ow_empty wr w.heap.size hsz).alloc _).kept hGr (.inr (by simp [Value.ownBlock]))
  · simp [Value.ownBlock]; omega
  · simp [Value.ownBlock]; omega
  · exact ⟨ys, rfl, hO'.base (fun k hk => by simp [Value.ownBlock] at hk; omega), hF⟩
  · exact ⟨ys, rfl, ((hO.alloc _).alloc _).kept hGr (.inr (by simp [Value.ownBlock]; omega)), hF⟩
  · exact ((hB.alloc hsz _).alloc (by simp; omega) _).grown hGr (by simp; omega) (fun k hk => by simp [Value.ownBlock] at hk; omega)

end Go.Proofs.Ytkdojogjalkddaa
