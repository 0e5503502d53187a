/- Steps turned round, in plain numbers; what a call hands back that makes steps. -/
import Derived.Test.YtkdojogjalkddaaNg
import Derived.Deep.RegionLaw
import Derived.WalkSpells
namespace Go.Proofs.Ytkdojogjalkddaa
set_option maxRecDepth 100000
set_option linter.unusedVariables false
open Go.RowKit

def tsE (xs : List Nat) (k : Nat) : List Nat := (List.range k).map fun j => ngE (xs.getD (xs.length - 1 - j) 0)
def tsH (ys : List Nat) (k : Nat) : List Nat := (List.range k).map fun j => ys.getD (ys.length - 1 - j) 0
theorem tsE_snoc (xs : List Nat) (k : Nat) : tsE xs (k + 1) = tsE xs k ++ [ngE (xs.getD (xs.length - 1 - k) 0)] := by unfold tsE; rw [List.range_succ, List.map_append]; rfl
theorem tsH_snoc (ys : List Nat) (k : Nat) : tsH ys (k + 1) = tsH ys k ++ [ys.getD (ys.length - 1 - k) 0] := by unfold tsH; rw [List.range_succ, List.map_append]; rfl
theorem tsE_len (xs : List Nat) (k : Nat) : (tsE xs k).length = k := by unfold tsE; simp
theorem tsH_len (ys : List Nat) (k : Nat) : (tsH ys k).length = k := by unfold tsH; simp
theorem tsE_get (xs : List Nat) {k j : Nat} (h : j < k) : (tsE xs k).getD j 0 = ngE (xs.getD (xs.length - 1 - j) 0) := by unfold tsE; simp [h]
theorem tsH_get (ys : List Nat) {k j : Nat} (h : j < k) : (tsH ys k).getD j 0 = ys.getD (ys.length - 1 - j) 0 := by unfold tsH; simp [h]

theorem fin_rung {x : Nat} (hx : x < 4294967296) (h : isFin (cn .f32 x) = true) : x % 2147483648 < 2139095040 := by
  have c := fin_cn h
  rw [c, isFin_some hx c] at h
  simpa using h
theorem fin_of {x : Nat} (hx : x < 4294967296) (h : x % 2147483648 < 2139095040) : cn .f32 x = some x ∧ isFin (cn .f32 x) = true := by
  have c : cn .f32 x = some x := cn_of_le .f32 x (by rw [f32_sign, f32_inf]; omega)
  exact ⟨c, by rw [c, isFin_some hx c]; simpa using h⟩
theorem ng_is {x : Nat} (hx : x < 4294967296) (h : isFin (cn .f32 x) = true) : cop .sub .f32 (some 0) (some x) = some (ngE x) ∧ ngE x < 4294967296 ∧ isFin (cn .f32 (ngE x)) = true ∧ sr .f32 (ngE x) = - sr .f32 x := by
  obtain ⟨r, h1, h2, h3, h4⟩ := zero_less hx (fin_rung hx h)
  have e : ngE x = r := by unfold ngE; rw [fin_cn h, h1]; rfl
  rw [e]
  exact ⟨h1, h2, (fin_of h2 (by rw [h3]; exact fin_rung hx h)).2, h4⟩
theorem ng_lt (x : Nat) : ngE x < 4294967296 := by
  unfold ngE
  cases h : cop .sub .f32 (some 0) (cn .f32 x) with
  | none => simp
  | some v => exact cop_lt v h
theorem gt_sr {x y : Nat} (hx : x < 4294967296) (hy : y < 4294967296) (cx : isFin (cn .f32 x) = true) (cy : isFin (cn .f32 y) = true) : gtC (cn .f32 x) (cn .f32 y) = decide (sr .f32 y < sr .f32 x) := by
  unfold gtC
  rw [← order_cord, order_sr .f32 x y (by rw [f32_sign]; omega) (by rw [f32_sign]; omega) (fin_cn cx) (fin_cn cy)]
  rcases Int.lt_trichotomy (sr .f32 x) (sr .f32 y) with h | h | h
  · rw [Int.compare_eq_lt.2 h, decide_eq_false (by omega)]; rfl
  · rw [Int.compare_eq_eq.2 h, decide_eq_false (by omega)]; rfl
  · rw [Int.compare_eq_gt.2 h, decide_eq_true h]; rfl

theorem all_of {xs : List Nat} (h : ∀ j, j < xs.length → isFin (cn .f32 (xs.getD j 0)) = true) : allFin xs = true := by
  unfold allFin
  rw [List.all_eq_true]
  intro x hx
  obtain ⟨j, hj, rfl⟩ := List.getElem_of_mem hx
  have := h j hj
  rwa [List.getD_eq_getElem?_getD, List.getElem?_eq_getElem hj] at this
theorem turned_ok {xs ys : List Nat} (h : vsB xs ys = true) (hw : ∀ j, j < xs.length → xs.getD j 0 < 4294967296) : vsB (tsE xs xs.length) (tsH ys ys.length) = true := by
  obtain ⟨l1, l2, fx, fy, hasc⟩ := vsB_ok h
  unfold vsB
  rw [tsE_len, tsH_len, decide_eq_true ⟨l1, l2⟩]
  have h1 : allFin (tsE xs xs.length) = true := all_of fun j hj => by
    rw [tsE_len] at hj
    rw [tsE_get xs hj]
    exact (ng_is (hw _ (by omega)) (fin_at fx (by omega))).2.2.1
  have h2 : allFin (tsH ys ys.length) = true := all_of fun j hj => by
    rw [tsH_len] at hj
    rw [tsH_get ys hj]
    exact fin_at fy (by omega)
  have h3 : ascB (tsE xs xs.length) = true := by
    unfold ascB
    rw [List.all_eq_true]
    intro i hi
    rw [List.mem_range, tsE_len] at hi
    unfold ascP
    rw [tsE_get xs (by omega), tsE_get xs (by omega)]
    have a1 := ng_is (hw (xs.length - 1 - (i + 1)) (by omega)) (fin_at fx (by omega))
    have a2 := ng_is (hw (xs.length - 1 - i) (by omega)) (fin_at fx (by omega))
    rw [gt_sr a1.2.1 a2.2.1 a1.2.2.1 a2.2.2.1, a1.2.2.2, a2.2.2.2]
    have := List.all_eq_true.1 hasc (xs.length - 1 - (i + 1)) (List.mem_range.2 (by omega))
    unfold ascP at this
    rw [show xs.length - 1 - (i + 1) + 1 = xs.length - 1 - i by omega, gt_sr (hw _ (by omega)) (hw _ (by omega)) (fin_at fx (by omega)) (fin_at fx (by omega))] at this
    simp only [decide_eq_true_eq] at this ⊢
    omega
  rw [h1, h2, h3]; rfl

/-! 'append' at a step of a region that draws its order -/
theorem step_append_run {P : Program} {w : World} {ops : Array Oper} {o : Oper} {a : Act} {K : Act → World → Prop} {Q : Exit → Act → World → Prop} {E : Prop} (hgd : o.guard = none) (s x : Operand) (t : TypeId)
    (ho : o.op = .call { callee := .builtin .append, args := #[s, x], argTypes := #[t, t] }) (v u : Value) (hs : a.eval s = v) (hx : a.eval x = u) (v' : Value) (w' : World)
    (hr : (Builtin.append_ #[t, t] o.type #[v, u]).run P w = .ok v' w') (h : K (a.put o.dst v') w') : if Region.wanted o (yielded ops a.tmps) = true then Oper.wp P o a w K Q else E := by
  have hw : Region.wanted o (yielded ops a.tmps) = true := by simp [Region.wanted, hgd]
  rw [if_pos hw]
  unfold Oper.wp execOp
  simp only [ho, resolve, invoke, builtin, Sem.run_bind, Sem.run_pure, Result.andThen_ok, List.map_toArray, List.map_cons, List.map_nil, hs, hx, hr]
  exact h

/-- steps in the making: block o holds the two slices, each of the call's own, in blocks from w0's size on -/
def Tt (w0 w : World) (o : Nat) (ve : Value) (es : List Nat) (vh : Value) (hs : List Nat) : Prop :=
  Below w0.heap.size w0 w ∧ w0.heap.size ≤ o ∧ Bk w o ve vh ∧ w.frozen? ⟨o, 0, none⟩ = false ∧ w.frozen? ⟨o, 1, none⟩ = false ∧ Ow w w0.heap.size ve es ∧ Ow w w0.heap.size vh hs ∧
    ve.ownBlock ≠ some o ∧ vh.ownBlock ≠ some o ∧ ∀ k, ve.ownBlock = some k → vh.ownBlock ≠ some k
section
variable {w0 w : World} {o : Nat} {ve vh : Value} {es hs : List Nat}
theorem Tt.base (h : Tt w0 w o ve es vh hs) : Below w0.heap.size w0 w := h.1
theorem Tt.drewN (h : Tt w0 w o ve es vh hs) (k : Nat) : Tt w0 (w.drewN k) o ve es vh hs := by
  obtain ⟨h1, h2, h3, h4, h5, h6, h7, h8⟩ := h
  exact ⟨below_drewN' h1 k, h2, h3, h4, h5, h6.drewN k, h7.drewN k, h8⟩
theorem slice_form {w : World} {B : Nat} {v : Value} {es : List Nat} {x : Nat} (h : Ow w B v (es ++ [x])) : ∃ g c, v = .slice (some ⟨g, 0, none⟩) (es.length + 1) c := by
  obtain ⟨a, c, e, _, hg⟩ := h.Fs
  obtain ⟨g, rfl, _⟩ := hg (by simp)
  exact ⟨g, c, by simpa using e⟩
/-- an edge more -/
theorem Tt.pushE (h : Tt w0 w o ve es vh hs) (x : Nat) (hl : es.length ≤ 1048576) : ∃ g' c' w', (Builtin.append_ #[22, 22] 22 #[ve, .slice (some ⟨w.heap.size, 0, none⟩) 1 1]).run Try.prog (w.alloc (.cells #[.float .f32 x] 32)).drew = .ok (.slice (some ⟨g', 0, none⟩) (es.length + 1) c') w' ∧
    w'.cell? ⟨o, 0, none⟩ = some ve ∧ w'.frozen? ⟨o, 0, none⟩ = false ∧ Tt w0 (w'.setCell ⟨o, 0, none⟩ (.slice (some ⟨g', 0, none⟩) (es.length + 1) c')) o (.slice (some ⟨g', 0, none⟩) (es.length + 1) c') (es ++ [x]) vh hs := by
  obtain ⟨h1, h2, h3, h4, h5, h6, h7, h8, h9, h10⟩ := h
  have hsz := h1.size
  have hF : Fs (w.alloc (.cells #[.float .f32 x] 32)).drew (some ⟨w.heap.size, 0, none⟩) [x] := (Fs_one' w x _).drewN 1
  obtain ⟨v', w', hr, hO, hG, hW⟩ := run_app_src (w.alloc (.cells #[.float .f32 x] 32)).drew w0.heap.size ve es [x] (some ⟨w.heap.size, 0, none⟩) 1 ((h6.alloc _).drewN 1) hF (fun q => by cases q) (by simp; omega) (by simp; omega) 22
  have hz : (w.alloc (.cells #[.float .f32 x] 32)).drew.heap.size = w.heap.size + 1 := by simp
  have ho := h3.2.2
  have hoB : some o ≠ ve.ownBlock := fun q => h8 q.symm
  have hb : w'.heap[o]? = w.heap[o]? := (hG.block o (by omega) hoB).trans (heap_alloc_old w _ ho)
  have hc : ∀ i, w'.cell? ⟨o, i, none⟩ = w.cell? ⟨o, i, none⟩ := fun i => World.cell?_of_block hb
  have hfz : ∀ i, w'.frozen? ⟨o, i, none⟩ = w.frozen? ⟨o, i, none⟩ := fun i => World.frozen?_of_block hb
  have hv' : v'.ownBlock ≠ some o := by
    rcases hW with q | q
    · rw [q]; exact h8
    · rw [q, hz]; intro e; injection e with e; omega
  have hne : ∀ k, v'.ownBlock = some k → vh.ownBlock ≠ some k := by
    intro k hk q
    rcases hW with e | e
    · rw [e] at hk; exact h10 k hk q
    · rw [e, hz] at hk; injection hk with hk; have := (h7.lt q).2; omega
  have h7' : Ow w' w0.heap.size vh hs := ((h7.alloc _).drewN 1).kept hG (by
    cases e : vh.ownBlock with
    | none => exact .inl rfl
    | some k => exact .inr fun q => h10 k q.symm e)
  have hB' : Below w0.heap.size w0 w' := (below_drewN' (h1.alloc hsz _) 1).grown hG (by show _ ≤ (w.alloc _).heap.size; simp; omega) (fun k hk => (h6.lt hk).1)
  obtain ⟨g', c', e'⟩ := slice_form hO
  have hS := grownBy_set w' o 0 v'
  subst e'
  refine ⟨g', c', w', hr, (hc 0).trans h3.1, (hfz 0).trans h4, hB'.setCell h2 _, h2, ⟨World.cell?_setCell_same _ _ _ ((hc 0).trans h3.1), ?_, ?_⟩, ?_, ?_, hO.kept hS (.inr hv'), h7'.kept hS (.inr h9), hv', h9, hne⟩
  · rw [cell_set_off (by omega)]; exact (hc 1).trans h3.2.1
  · have := hG.size; simp; omega
  · rw [World.frozen?_setCell]; exact (hfz 0).trans h4
  · rw [World.frozen?_setCell]; exact (hfz 1).trans h5
/-- a height more -/
theorem Tt.pushH (h : Tt w0 w o ve es vh hs) (x : Nat) (hl : hs.length ≤ 1048576) : ∃ g' c' w', (Builtin.append_ #[22, 22] 22 #[vh, .slice (some ⟨w.heap.size, 0, none⟩) 1 1]).run Try.prog (w.alloc (.cells #[.float .f32 x] 32)).drew = .ok (.slice (some ⟨g', 0, none⟩) (hs.length + 1) c') w' ∧
    w'.cell? ⟨o, 1, none⟩ = some vh ∧ w'.frozen? ⟨o, 1, none⟩ = false ∧ Tt w0 (w'.setCell ⟨o, 1, none⟩ (.slice (some ⟨g', 0, none⟩) (hs.length + 1) c')) o ve es (.slice (some ⟨g', 0, none⟩) (hs.length + 1) c') (hs ++ [x]) := by
  obtain ⟨h1, h2, h3, h4, h5, h6, h7, h8, h9, h10⟩ := h
  have hsz := h1.size
  have hF : Fs (w.alloc (.cells #[.float .f32 x] 32)).drew (some ⟨w.heap.size, 0, none⟩) [x] := (Fs_one' w x _).drewN 1
  obtain ⟨v', w', hr, hO, hG, hW⟩ := run_app_src (w.alloc (.cells #[.float .f32 x] 32)).drew w0.heap.size vh hs [x] (some ⟨w.heap.size, 0, none⟩) 1 ((h7.alloc _).drewN 1) hF (fun q => by cases q) (by simp; omega) (by simp; omega) 22
  have hz : (w.alloc (.cells #[.float .f32 x] 32)).drew.heap.size = w.heap.size + 1 := by simp
  have ho := h3.2.2
  have hoB : some o ≠ vh.ownBlock := fun q => h9 q.symm
  have hb : w'.heap[o]? = w.heap[o]? := (hG.block o (by omega) hoB).trans (heap_alloc_old w _ ho)
  have hc : ∀ i, w'.cell? ⟨o, i, none⟩ = w.cell? ⟨o, i, none⟩ := fun i => World.cell?_of_block hb
  have hfz : ∀ i, w'.frozen? ⟨o, i, none⟩ = w.frozen? ⟨o, i, none⟩ := fun i => World.frozen?_of_block hb
  have hv' : v'.ownBlock ≠ some o := by
    rcases hW with q | q
    · rw [q]; exact h9
    · rw [q, hz]; intro e; injection e with e; omega
  have hne : ∀ k, ve.ownBlock = some k → v'.ownBlock ≠ some k := by
    intro k hk q
    rcases hW with e | e
    · rw [e] at q; exact h10 k hk q
    · rw [e, hz] at q; injection q with q; have := (h6.lt hk).2; omega
  have h6' : Ow w' w0.heap.size ve es := ((h6.alloc _).drewN 1).kept hG (by
    cases e : ve.ownBlock with
    | none => exact .inl rfl
    | some k => exact .inr fun q => h10 k e q.symm)
  have hB' : Below w0.heap.size w0 w' := (below_drewN' (h1.alloc hsz _) 1).grown hG (by show _ ≤ (w.alloc _).heap.size; simp; omega) (fun k hk => (h7.lt hk).1)
  obtain ⟨g', c', e'⟩ := slice_form hO
  have hS := grownBy_set w' o 1 v'
  subst e'
  refine ⟨g', c', w', hr, (hc 1).trans h3.2.1, (hfz 1).trans h5, hB'.setCell h2 _, h2, ⟨?_, World.cell?_setCell_same _ _ _ ((hc 1).trans h3.2.1), ?_⟩, ?_, ?_, h6'.kept hS (.inr h8), hO.kept hS (.inr hv'), h8, hv', hne⟩
  · rw [cell_set_off (by omega)]; exact (hc 0).trans h3.1
  · have := hG.size; simp; omega
  · rw [World.frozen?_setCell]; exact (hfz 0).trans h4
  · rw [World.frozen?_setCell]; exact (hfz 1).trans h5
end

/-- what a call hands back: steps of its own, and whether they count -/
def RetSt (es hs : List Nat) (b : Bool) (w : World) (e : Ending) (w' : World) : Prop :=
  ∃ ve vh, e = .returned (.tuple #[.agg #[ve, vh], .bool b]) ∧ Ow w' w.heap.size ve es ∧ Ow w' w.heap.size vh hs ∧ (∀ k, ve.ownBlock = some k → vh.ownBlock ≠ some k) ∧ Below w.heap.size w w'
end Go.Proofs.Ytkdojogjalkddaa
