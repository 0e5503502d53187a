/- ReadNumbers on both sides. -/
import Derived.Test.YtkemghecglbleaaGreatDoorGq
import Derived.Test.YtkemghecglbleaaGreatDoorAp
namespace Go.Proofs.YtkemghecglbleaaGreatDoor
set_option maxRecDepth 100000
set_option linter.unusedVariables false
open Go.Lib Go.RowKit Go.Sort
/-! slices of 32-bit numbers of the call's own -/
theorem Ow.belowR {w w' : World} {b : Nat} {v : Value} {xs : List Nat} (h : Ow w b v xs) (hB : Below w.heap.size w w') : Ow w' b v xs := by
  refine ⟨h.1, ?_⟩
  rcases h.2 with q | ⟨g, c, cur, e, h1, h2, r⟩
  · exact .inl q
  · exact .inr ⟨g, c, cur, e, h1, by rw [hB.block g (Array.getElem?_eq_some_iff.1 h2).1]; exact h2, r⟩
theorem Ow.fsR {w : World} {base : Nat} {a : Option Addr} {n cap : Nat} {xs : List Nat} (h : Ow w base (.slice a n cap) xs) : Proofs.YtkemghecglbleaaGreatDoor.Fs w a xs := by
  obtain ⟨a2, c2, e, hF, _⟩ := h.Fs
  injection e with e1 e2 e3
  rw [e1]; exact hF
theorem OwR_empty (w : World) (base : Nat) (h : base ≤ w.heap.size) : Ow (w.alloc (.cells #[] 28)) base (.slice (some ⟨w.heap.size, 0, none⟩) 0 0) [] := by
  refine ⟨rfl, .inr ⟨w.heap.size, 0, #[], rfl, h, heap_alloc_new w _, Nat.le_refl _, by simp, rfl, rfl⟩⟩
theorem Ow.baseR {w : World} {b b' : Nat} {v : Value} {xs : List Nat} (h : Ow w b v xs) (hb : b' ≤ b) : Ow w b' v xs := by
  refine ⟨h.1, ?_⟩
  rcases h.2 with q | ⟨g, c, cur, e, h1, r⟩
  · exact .inl q
  · exact .inr ⟨g, c, cur, e, by omega, r⟩
theorem OwR_nil (w : World) (base : Nat) : Ow w base (.slice none 0 0) [] := ⟨rfl, .inl ⟨rfl, rfl⟩⟩
theorem run_pushR (w : World) (base : Nat) (v : Value) (xs : List Nat) (x : Nat) (h : Ow w base v xs) (hb : base ≤ w.heap.size) (hl : xs.length ≤ 1048576) (ty : TypeId) :
    ∃ v' w', (Builtin.append_ #[90, 90] ty #[v, .slice (some ⟨w.heap.size, 0, none⟩) 1 1]).run Tryz.prog (w.alloc (.cells #[.float .f32 x] 28)) = .ok v' w' ∧ Ow w' base v' (xs ++ [x]) ∧ Below base w w' := by
  have h' : Ow (w.alloc (.cells #[.float .f32 x] 28)) base v xs := h.belowR ((Below.refl _ _).alloc (Nat.le_refl _) _)
  obtain ⟨v', w', hr, h2, h3⟩ := run_app32 (w.alloc (.cells #[.float .f32 x] 28)) base v xs x w.heap.size h' (by simp) (by simp; omega) hl ty
  refine ⟨v', w', hr, h2, ((Below.refl base w).alloc hb _).grown h3 (by simp; omega) (fun k hk => ?_)⟩
  rcases h.2 with ⟨rfl, _⟩ | ⟨g, c, cur, rfl, h1, _⟩
  · cases hk
  · have : g = k := by injection hk
    omega

/-- the numbers of some words: none if a word is none -/
def digs : List ByteArray → Option (List Nat)
  | [] => some []
  | s :: r => (digS s.data.toList).bind fun n => (digs r).map (n :: ·)
theorem digs_cons (s : ByteArray) (r : List ByteArray) : digs (s :: r) = (digS s.data.toList).bind fun n => (digs r).map (n :: ·) := rfl
/-- what ReadNumbers gives -/
def readN (s : ByteArray) : List Nat × Bool := if 256 < (partsD s).length then ([], false) else match digs (partsD s) with
  | some l => (l, true)
  | none => ([], false)
def DigAt (ps : List ByteArray) (k : Nat) (l : List Nat) : Prop := digs ps = (digs (ps.drop k)).map (l ++ ·)
theorem DigAt.zero (ps : List ByteArray) : DigAt ps 0 [] := by unfold DigAt; simp
theorem DigAt.next {ps : List ByteArray} {k : Nat} {l : List Nat} (h : DigAt ps k l) (hk : k < ps.length) {n : Nat} (hn : digS ps[k].data.toList = some n) : DigAt ps (k + 1) (l ++ [n]) := by
  unfold DigAt at h ⊢
  rw [h, List.drop_eq_getElem_cons hk, digs_cons, hn]
  simp only [Option.bind_some]
  cases digs (ps.drop (k + 1)) <;> simp
theorem DigAt.no {ps : List ByteArray} {k : Nat} {l : List Nat} (h : DigAt ps k l) (hk : k < ps.length) (hn : digS ps[k].data.toList = none) : digs ps = none := by
  unfold DigAt at h
  rw [h, List.drop_eq_getElem_cons hk, digs_cons, hn]; rfl
theorem DigAt.full {ps : List ByteArray} {l : List Nat} (h : DigAt ps ps.length l) : digs ps = some l := by
  unfold DigAt at h
  rw [h, List.drop_of_length_le (Nat.le_refl _)]
  simp [digs]
theorem digs_len : ∀ (ws : List ByteArray) (l : List Nat), digs ws = some l → l.length = ws.length
  | [], l, h => by
    have : some [] = some l := h
    injection this with this
    rw [← this]; rfl
  | x :: r, l, h => by
    rw [digs_cons] at h
    obtain ⟨n, _, h3⟩ := Option.bind_eq_some_iff.1 h
    obtain ⟨l', h4, rfl⟩ := Option.map_eq_some_iff.1 h3
    simp [digs_len r l' h4]
theorem digS_lt {l : List UInt8} {n : Nat} (h : digS l = some n) : n < 4294967296 := by
  unfold digS at h
  split at h
  · obtain ⟨m, hm, h2⟩ := Option.bind_eq_some_iff.1 h
    split at h2
    · injection h2 with h2
      obtain ⟨_, q⟩ := foldS_is 8 l m (by assumption) hm
      omega
    · cases h2
  · cases h
theorem digs_lt : ∀ (ws : List ByteArray) (l : List Nat), digs ws = some l → ∀ x ∈ l, x < 4294967296
  | [], l, h => by
    have : some [] = some l := h
    injection this with this
    subst this
    intro x hx
    cases hx
  | y :: r, l, h => by
    rw [digs_cons] at h
    obtain ⟨n, hn, h3⟩ := Option.bind_eq_some_iff.1 h
    obtain ⟨l', h4, rfl⟩ := Option.map_eq_some_iff.1 h3
    intro x hx
    rcases List.mem_cons.1 hx with rfl | hx
    · exact digS_lt hn
    · exact digs_lt r l' h4 x hx
theorem readN_len (s : ByteArray) : (readN s).1.length ≤ 256 := by
  unfold readN
  split
  · simp
  · cases hl : digs (partsD s) with
    | none => simp
    | some l =>
      have := digs_len _ _ hl
      show l.length ≤ 256
      omega
theorem readN_lt (s : ByteArray) : ∀ j, j < (readN s).1.length → (readN s).1.getD j 0 < 4294967296 := by
  unfold readN
  split
  · intro j hj; cases hj
  · cases hl : digs (partsD s) with
    | none => intro j hj; cases hj
    | some l =>
      intro j hj
      show l.getD j 0 < _
      have hj' : j < l.length := hj
      rw [List.getD_eq_getElem?_getD, List.getElem?_eq_getElem hj']
      exact digs_lt _ _ hl _ (List.getElem_mem hj')
theorem partsD_size (s : ByteArray) : ∀ p ∈ partsD s, p.size ≤ s.size := by
  unfold partsD
  split
  · intro p hp; cases hp
  · exact cutB_size s
theorem partsD_len (s : ByteArray) : (partsD s).length ≤ s.size + 1 := by
  unfold partsD
  split
  · simp
  · exact cutB_len s
/-- what both sides hand back -/
def RetRd (ys : List Nat) (b : Bool) (w : World) (e : Ending) (w' : World) : Prop := ∃ v, e = .returned (.tuple #[v, .bool b]) ∧ Ow w' w.heap.size v ys ∧ Below w.heap.size w w'
end Go.Proofs.YtkemghecglbleaaGreatDoor
