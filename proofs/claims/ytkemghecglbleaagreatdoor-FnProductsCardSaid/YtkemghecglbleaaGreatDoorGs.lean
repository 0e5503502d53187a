/- Slices of texts that a function grows; texts with commas between. -/
import Derived.Test.YtkemghecglbleaaGreatDoorGc
import Derived.Lib.AppendZeros
import Derived.Laws.AppendOwn
namespace Go.Proofs.YtkemghecglbleaaGreatDoor
set_option maxRecDepth 100000
set_option linter.unusedVariables false
open Go.Lib Go.RowKit Go.Sort
/-- a slice of the call's own that holds these texts -/
def Ows (w : World) (base : Nat) (v : Value) (ws : List ByteArray) : Prop := w.ownsRow base 9 1 v ws.length (ws.map Value.string)
theorem Ows.below {w w' : World} {b : Nat} {v : Value} {ws : List ByteArray} (h : Ows w b v ws) (hB : Below w.heap.size w w') : Ows w' b v ws := by
  refine ⟨h.1, ?_⟩
  rcases h.2 with q | ⟨g, c, cur, e, h1, h2, r⟩
  · exact .inl q
  · exact .inr ⟨g, c, cur, e, h1, by rw [hB.block g (Array.getElem?_eq_some_iff.1 h2).1]; exact h2, r⟩
theorem Ows_empty (w : World) (base : Nat) (h : base ≤ w.heap.size) : Ows (w.alloc (.cells #[] 9)) base (.slice (some ⟨w.heap.size, 0, none⟩) 0 0) [] :=
  ⟨rfl, .inr ⟨w.heap.size, 0, #[], rfl, h, heap_alloc_new w _, Nat.le_refl _, by simp, rfl, rfl⟩⟩
theorem run_pushS (w : World) (base : Nat) (v : Value) (xs : List ByteArray) (x : ByteArray) (h : Ows w base v xs) (hb : base ≤ w.heap.size) (hl : xs.length ≤ 1048577) (ty : TypeId) :
    ∃ v' w', (Builtin.append_ #[60, 60] ty #[v, .slice (some ⟨w.heap.size, 0, none⟩) 1 1]).run Tryz.prog (w.alloc (.cells #[.string x] 9)) = .ok v' w' ∧ Ows w' base v' (xs ++ [x]) ∧ Below base w w' := by
  obtain ⟨i, hi, hz0, hz1, hz2⟩ := info_parts (P := Tryz.prog) (e := 9) (z := .string ⟨#[]⟩) (size := 1) (bytes := 16) (by kernel_rfl)
  have h' : Ows (w.alloc (.cells #[.string x] 9)) base v xs := h.below ((Below.refl _ _).alloc (Nat.le_refl _) _)
  obtain ⟨v', w', hr, h2, h3, _, _⟩ := run_append_own_at (P := Tryz.prog) (w.alloc (.cells #[.string x] 9)) base 60 ty 9 i (.string ⟨#[]⟩) 1 16 Tryz.underlying60 hi hz0 hz1 hz2 rfl (by omega) v xs.length (xs.map Value.string) h' ⟨w.heap.size, 0, none⟩ 1 1 [.string x] rfl
    (fun j u hj => by
      cases j with
      | zero => simp at hj; subst hj; simp [Addr.add]
      | succ j => simp at hj) (fun u hu => by simp at hu; subst hu; rfl) (by unfold maxLen; omega) (by omega) (by simp; omega)
  refine ⟨v', w', hr, ?_, (((Below.refl base w).alloc hb _)).grown h3 (by simp; omega) (fun k hk => ?_)⟩
  · unfold Ows
    rw [List.length_append, List.map_append]
    exact h2
  · rcases h.2 with ⟨rfl, _⟩ | ⟨g, c, cur, rfl, h1, _⟩
    · cases hk
    · have : g = k := by injection hk
      omega

def joinB (ws : List ByteArray) : ByteArray := if ws = [] then ofB [110, 111, 110, 101] else ofB (Lib.join (ws.map (·.data.toList)) [44])
set_option maxHeartbeats 1000000 in
theorem impl_listOrNone (v : Value) (ws : List ByteArray) (b : Nat) (hn : ws.length ≤ 1000) (hlen : (Lib.join (ws.map (·.data.toList)) [44]).length ≤ 140737488355328) (w : World) (h : Ows w b v ws) :
    Calls Tryz.prog 36 #[v] w (RetB (.string (joinB ws)) w) := by
  rcases h.2 with ⟨rfl, hh⟩ | ⟨g, c, cur, rfl, h1, h2, h3, h4, h5, h6⟩
  · have h0 : ws = [] := by simpa using hh
    subst h0
    go_enter Tryz.func36, Tryz.ntmps36
    go_wp2
    go_ret
    exact ⟨rfl, Below.refl _ _⟩
  · by_cases h0 : ws = []
    · subst h0
      clear h h2 h3 h4 h5 h6
      go_enter Tryz.func36, Tryz.ntmps36
      go_wp2
      go_ret
      exact ⟨rfl, Below.refl _ _⟩
    · have hp := List.length_pos_iff.2 h0
      have hj : joinB ws = ofB (Lib.join (ws.map (·.data.toList)) [44]) := if_neg h0
      have hlt := (Array.getElem?_eq_some_iff.1 h2).1
      have C := Tryz.strings_Join g 0 c ws ⟨#[44]⟩ w (fun j x hx => by
        have hjl : j < ws.length := (List.getElem?_eq_some_iff.1 hx).1
        rw [Nat.zero_add]
        simp only [World.cell?, h2]
        have e : cur[j]? = (ws.map Value.string)[j]? := by
          rw [← h6, List.getElem?_take_of_lt (by omega)]
          simp
        simp [e, hx]) hlt (by omega) h3 hlen
      have CC := Lib.hid C
      have J := Lib.hid hj
      have n0 : ¬ (ws.length : Int) = 0 := by omega
      clear C hj h h0 h2 h3 h4 h5 h6
      go_enter Tryz.func36, Tryz.ntmps36
      go_wp2_with (go_at_call 57; refine CC.out.mono ?_; rintro _ w1 ⟨rfl, hB⟩; have B1 := Lib.hid hB; clear hB)
      go_ret
      exact ⟨by rw [J.out]; rfl, B1.out⟩
theorem join_cons2 (a b : List UInt8) (r : List (List UInt8)) : Lib.join (a :: b :: r) [44] = a ++ 44 :: Lib.join (b :: r) [44] := by
  unfold Lib.join
  rw [List.intercalate_cons_cons]
  simp
theorem join_snoc : ∀ (r : List (List UInt8)) (a b : List UInt8), Lib.join (a :: r ++ [b]) [44] = Lib.join (a :: r) [44] ++ 44 :: b
  | [], a, b => by
    have := join_cons2 a b []
    simp [Lib.join] at this ⊢
  | c :: r, a, b => by
    have e1 := join_cons2 a c r
    have e2 := join_cons2 a c (r ++ [b])
    have ih := join_snoc r c b
    rw [show a :: c :: r ++ [b] = a :: c :: (r ++ [b]) from rfl, e2, e1, show c :: (r ++ [b]) = c :: r ++ [b] from rfl, ih]
    simp
theorem join_len8 (m : Nat) : ∀ (ls : List (List UInt8)), (∀ x ∈ ls, x.length = m) → ls ≠ [] → (Lib.join ls [44]).length + 1 = (m + 1) * ls.length
  | [], _, h => absurd rfl h
  | [a], h, _ => by have := h a (by simp); simp [Lib.join]; omega
  | a :: b :: r, h, _ => by
    have h1 := h a (by simp)
    have ih := join_len8 m (b :: r) (fun x hx => h x (List.mem_cons_of_mem _ hx)) (by simp)
    rw [join_cons2, List.length_append, List.length_cons, List.length_cons, Nat.mul_succ]
    omega
end Go.Proofs.YtkemghecglbleaaGreatDoor
