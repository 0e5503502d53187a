/- Several slices of a call's own, side by side: where each lies, what each holds up to which not-a-number; a slice appended whole. -/
import Derived.Test.YtkdojogjalkddaaBn
import Derived.Maps.AppendAt
import Derived.Laws.AppendOwnNone
namespace Go.Proofs.Ytkdojogjalkddaa
set_option maxRecDepth 100000
set_option linter.unusedVariables false
open Go.RowKit

/-- another slice behind a slice of the call's own -/
theorem run_app_src (w : World) (base : Nat) (v : Value) (xs ys : List Nat) (a : Option Addr) (c : Nat) (h : Ow w base v xs) (hs : Fs w a ys) (hc : ys = [] → c = 0 ∨ a ≠ none) (hbase : base ≤ w.heap.size) (hl : xs.length + ys.length ≤ 4194304) (ty : TypeId) :
    ∃ v' w', (Builtin.append_ #[22, 22] ty #[v, .slice a ys.length c]).run Try.prog w = .ok v' w' ∧ Ow w' base v' (xs ++ ys) ∧ w.grownBy w' v.ownBlock ∧
      (v'.ownBlock = v.ownBlock ∨ v'.ownBlock = some w.heap.size) := by
  obtain ⟨i, hi, hz0, hz1, hz2⟩ := info_parts (P := Try.prog) (e := 32) (z := .float .f32 0) (size := 1) (bytes := 4) (by kernel_rfl)
  have done : ∀ (ad : Addr), a = some ad → (∀ j u, (ys.map (Value.float .f32))[j]? = some u → w.cell? (ad.add j) = some u) → ∃ v' w', (Builtin.append_ #[22, 22] ty #[v, .slice a ys.length c]).run Try.prog w = .ok v' w' ∧ Ow w' base v' (xs ++ ys) ∧ w.grownBy w' v.ownBlock ∧
      (v'.ownBlock = v.ownBlock ∨ v'.ownBlock = some w.heap.size) := by
    intro ad ha hn
    subst ha
    obtain ⟨v', w', hr, h2, h3, _, h5⟩ := run_append_own_at (P := Try.prog) w base 22 ty 32 i (.float .f32 0) 1 4 Try.underlying22 hi hz0 hz1 hz2 rfl (by omega) v xs.length (xs.map (Value.float .f32)) h ad ys.length c (ys.map (Value.float .f32)) (by simp)
      hn (fun u hu => by obtain ⟨x, _, rfl⟩ := List.mem_map.1 hu; rfl) (by unfold maxLen; omega) (by omega) hbase
    refine ⟨v', w', hr, ?_, h3, h5⟩
    unfold Ow
    rw [List.length_append, List.map_append]
    exact h2
  rcases hs with e | ⟨b, off, e, hb, hcell⟩
  · cases a with
    | none =>
      subst e
      have hc0 : c = 0 := by rcases hc rfl with q | q
                             · exact q
                             · exact absurd rfl q
      subst hc0
      refine ⟨v, w, run_append_owned_none (P := Try.prog) (w := w) base 22 ty 32 i 1 Try.underlying22 hi v xs.length (xs.map (Value.float .f32)) h, by rw [List.append_nil]; exact h, ⟨rfl, rfl, rfl, Nat.le_refl _, fun _ _ _ => rfl⟩, .inl rfl⟩
    | some ad => exact done ad rfl (fun j u hj => by subst e; simp at hj)
  · refine done ⟨b, off, none⟩ e (fun j u hj => ?_)
    have hadd : (⟨b, off, none⟩ : Addr).add j = ⟨b, off + j, none⟩ := by
      unfold Addr.add
      split
      · rename_i q; subst q; rfl
      · rfl
    rw [hadd]
    rw [List.getElem?_map] at hj
    cases hy : ys[j]? with
    | none => rw [hy] at hj; cases hj
    | some y =>
      rw [hy] at hj
      obtain ⟨hlt, _⟩ := List.getElem?_eq_some_iff.1 hy
      rw [hcell j hlt]
      have : ys.getD j 0 = y := by rw [List.getD_eq_getElem?_getD, hy]; rfl
      rw [this]
      simpa using hj

/-- block g: the call's own slice of n numbers, that are, up to which not-a-number, f 0, f 1, .. -/
def Rg (w : World) (g n cap : Nat) (f : Nat → Option Nat) : Prop := ∃ xs : List Nat, xs.length = n ∧ Ow w g (.slice (some ⟨g, 0, none⟩) n cap) xs ∧ ∀ j, j < n → FE .f32 (xs.getD j 0) (f j)

theorem Ow.base {w : World} {b b' : Nat} {v : Value} {xs : List Nat} (h : Ow w b v xs) (hb : ∀ k, v.ownBlock = some k → b' ≤ k) : Ow w b' v xs := by
  refine ⟨h.1, ?_⟩
  rcases h.2 with q | ⟨g, cap, cur, e, _, r⟩
  · exact .inl q
  · exact .inr ⟨g, cap, cur, e, hb g (by rw [e]; rfl), r⟩
theorem Ow.kept {w w' : World} {b : Nat} {v : Value} {xs : List Nat} {row : Option Nat} (h : Ow w b v xs) (hg : w.grownBy w' row) (hne : v.ownBlock = none ∨ v.ownBlock ≠ row) : Ow w' b v xs := World.ownsRow.kept h hg hne
theorem Ow.lt {w : World} {b : Nat} {v : Value} {xs : List Nat} (h : Ow w b v xs) {k : Nat} (hk : v.ownBlock = some k) : b ≤ k ∧ k < w.heap.size := World.ownsRow.lt h k hk

theorem Rg.lt {w : World} {g n cap : Nat} {f : Nat → Option Nat} (h : Rg w g n cap f) : g < w.heap.size := by
  obtain ⟨xs, _, hO, _⟩ := h
  exact (hO.lt rfl).2
theorem Rg.at {w : World} {g n cap : Nat} {f : Nat → Option Nat} (h : Rg w g n cap f) {j : Nat} (hj : j < n) : ∃ x, w.cell? ⟨g, j, none⟩ = some (.float .f32 x) ∧ FE .f32 x (f j) ∧ w.frozen? ⟨g, j, none⟩ = false := by
  obtain ⟨xs, hl, hO, hF⟩ := h
  subst hl
  refine ⟨xs.getD j 0, ?_, hF j hj, World.ownsRow.frozenAt hO j⟩
  rw [World.ownsRow.cellAt hO j (by omega)]
  simp [hj]
theorem Rg.set {w : World} {g n cap : Nat} {f : Nat → Option Nat} (h : Rg w g n cap f) {j x : Nat} {c : Option Nat} (hj : j < n) (hx : FE .f32 x c) : Rg (w.setCell ⟨g, j, none⟩ (.float .f32 x)) g n cap (fun i => if i = j then c else f i) := by
  obtain ⟨xs, hl, hO, hF⟩ := h
  subst hl
  obtain ⟨_, _, _, hO'⟩ := hO.set hj x
  refine ⟨xs.set j x, by simp, hO', fun i hi => ?_⟩
  show FE .f32 ((xs.set j x).getD i 0) (if i = j then c else f i)
  by_cases e : i = j
  · subst e
    rw [if_pos rfl]
    simpa [List.getD_eq_getElem?_getD, hi] using hx
  · rw [if_neg e]
    have := hF i hi
    rwa [List.getD_eq_getElem?_getD, List.getElem?_set_ne (fun q => e q.symm), ← List.getD_eq_getElem?_getD]
theorem Rg.kept {w w' : World} {g n cap : Nat} {f : Nat → Option Nat} {row : Option Nat} (h : Rg w g n cap f) (hg : w.grownBy w' row) (hne : row ≠ some g) : Rg w' g n cap f := by
  obtain ⟨xs, hl, hO, hF⟩ := h
  exact ⟨xs, hl, hO.kept hg (.inr fun q => hne q.symm), hF⟩
theorem Rg.drewN {w : World} {g n cap : Nat} {f : Nat → Option Nat} (h : Rg w g n cap f) (k : Nat) : Rg (w.drewN k) g n cap f := h
theorem Rg.drew {w : World} {g n cap : Nat} {f : Nat → Option Nat} (h : Rg w g n cap f) : Rg w.drew g n cap f := h
theorem Rg.alloc {w : World} {g n cap : Nat} {f : Nat → Option Nat} (h : Rg w g n cap f) (o : Obj) : Rg (w.alloc o) g n cap f := h.kept (World.grownBy_alloc w o none) (by simp)
theorem grownBy_set (w : World) (g j : Nat) (u : Value) : w.grownBy (w.setCell ⟨g, j, none⟩ u) (some g) :=
  ⟨rfl, rfl, rfl, by simp, fun k _ hk => heap_setCell_other w ⟨g, j, none⟩ k u (fun q => hk (by rw [q]))⟩
theorem Rg.other {w : World} {g n cap : Nat} {f : Nat → Option Nat} (h : Rg w g n cap f) {g' : Nat} (hne : g' ≠ g) (j : Nat) (u : Value) : Rg (w.setCell ⟨g', j, none⟩ u) g n cap f :=
  h.kept (grownBy_set w g' j u) (fun q => hne (Option.some.inj q))
theorem Rg.congr {w : World} {g n cap : Nat} {f f' : Nat → Option Nat} (h : Rg w g n cap f) (he : ∀ j, j < n → f j = f' j) : Rg w g n cap f' := by
  obtain ⟨xs, hl, hO, hF⟩ := h
  exact ⟨xs, hl, hO, fun j hj => he j hj ▸ hF j hj⟩
theorem Rg.of {w : World} {b g cap : Nat} {xs : List Nat} (h : Ow w b (.slice (some ⟨g, 0, none⟩) xs.length cap) xs) (hx : ∀ j, j < xs.length → xs.getD j 0 < 4294967296) : Rg w g xs.length cap (fun j => cn .f32 (xs.getD j 0)) :=
  ⟨xs, rfl, h.base (fun k hk => by simp [Value.ownBlock] at hk; omega), fun j hj => ⟨rfl, by rw [f32_sign]; have := hx j hj; omega⟩⟩
theorem Rg_made (w : World) (n : Nat) (hn : n ≤ 1048576) : Rg (w.alloc (.cells ((List.replicate n 0).map (Value.float .f32)).toArray 32)) w.heap.size n n (fun _ => some 0) := by
  refine ⟨List.replicate n 0, by simp, ⟨by simp, .inr ⟨w.heap.size, n, _, by simp, Nat.le_refl _, heap_alloc_new w _, by simp, by unfold maxLen; omega, by simp, by simp⟩⟩, fun j hj => ?_⟩
  have : (List.replicate n 0).getD j 0 = 0 := by simp [List.getD_eq_getElem?_getD, hj]
  rw [this]
  exact ⟨cn_zero32, by decide⟩
theorem Rg_made' (w : World) (n : Nat) (hn : n ≤ 1048576) : Rg (w.alloc (.cells (Array.replicate n (Value.float .f32 0)) 32)) w.heap.size n n (fun _ => some 0) := by
  have h := Rg_made w n hn
  simp only [List.map_replicate, List.toArray_replicate] at h
  exact h
theorem Rg.below {w w' : World} {g n cap : Nat} {f : Nat → Option Nat} (h : Rg w g n cap f) {B : Nat} (hb : Below B w w') (hg : g < B) : Rg w' g n cap f := by
  obtain ⟨xs, hl, hO, hF⟩ := h
  refine ⟨xs, hl, ⟨hO.1, ?_⟩, hF⟩
  rcases hO.2 with q | ⟨g', c, cur, e, h1, h2, r⟩
  · exact .inl q
  · refine .inr ⟨g', c, cur, e, h1, ?_, r⟩
    have : g' = g := by cases e; rfl
    rw [hb.block g' (by omega)]; exact h2
theorem grownBy_refl (w : World) (row : Option Nat) : w.grownBy w row := ⟨rfl, rfl, rfl, Nat.le_refl _, fun _ _ _ => rfl⟩
theorem grownBy_trans {w w' w'' : World} {row : Option Nat} (h : w.grownBy w' row) (h' : w'.grownBy w'' row) : w.grownBy w'' row :=
  ⟨h'.os.trans h.os, h'.tape.trans h.tape, h'.output.trans h.output, Nat.le_trans h.size h'.size, fun k hk hr => (h'.block k (Nat.lt_of_lt_of_le hk h.size) hr).trans (h.block k hk hr)⟩
end Go.Proofs.Ytkdojogjalkddaa
