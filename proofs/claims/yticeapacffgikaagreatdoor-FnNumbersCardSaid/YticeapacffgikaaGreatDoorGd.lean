/- The reference's text of a number's bits. -/
import Derived.Test.YticeapacffgikaaGreatDoorGc
import Derived.Lib.AppendZeros
import Derived.Laws.AppendOwn
import Derived.Laws.BytesArg
namespace Go.Proofs.YticeapacffgikaaGreatDoor
set_option maxRecDepth 100000
set_option linter.unusedVariables false
open Go.Lib Go.RowKit Go.Sort
/-- a slice of the call's own that holds these bytes -/
def Oy (w : World) (base : Nat) (v : Value) (bs : List UInt8) : Prop := w.ownsRow base 5 1 v bs.length (bs.map fun (b : UInt8) => Value.int .u8 (b.toNat : Int))
theorem Oy.below {w w' : World} {b : Nat} {v : Value} {bs : List UInt8} (h : Oy w b v bs) (hB : Below w.heap.size w w') : Oy w' b v bs := by
  refine ⟨h.1, ?_⟩
  rcases h.2 with q | ⟨g, c, cur, e, h1, h2, r⟩
  · exact .inl q
  · exact .inr ⟨g, c, cur, e, h1, by rw [hB.block g (Array.getElem?_eq_some_iff.1 h2).1]; exact h2, r⟩
theorem Oy_empty (w : World) (base : Nat) (h : base ≤ w.heap.size) : Oy (w.alloc (.cells #[] 5)) base (.slice (some ⟨w.heap.size, 0, none⟩) 0 0) [] :=
  ⟨rfl, .inr ⟨w.heap.size, 0, #[], rfl, h, heap_alloc_new w _, Nat.le_refl _, by simp, rfl, rfl⟩⟩
theorem run_pushY (w : World) (base : Nat) (v : Value) (bs : List UInt8) (x : UInt8) (h : Oy w base v bs) (hb : base ≤ w.heap.size) (hl : bs.length ≤ 1048577) (ty : TypeId) :
    ∃ v' w', (Builtin.append_ #[22, 22] ty #[v, .slice (some ⟨w.heap.size, 0, none⟩) 1 1]).run Tryz.prog (w.alloc (.cells #[.int .u8 (x.toNat : Int)] 5)) = .ok v' w' ∧ Oy w' base v' (bs ++ [x]) ∧ Below base w w' := by
  obtain ⟨i, hi, hz0, hz1, hz2⟩ := info_parts (P := Tryz.prog) (e := 5) (z := .int .u8 0) (size := 1) (bytes := 1) (by kernel_rfl)
  have h' : Oy (w.alloc (.cells #[.int .u8 (x.toNat : Int)] 5)) base v bs := h.below ((Below.refl _ _).alloc (Nat.le_refl _) _)
  obtain ⟨v', w', hr, h2, h3, _, _⟩ := run_append_own_at (P := Tryz.prog) (w.alloc (.cells #[.int .u8 (x.toNat : Int)] 5)) base 22 ty 5 i (.int .u8 0) 1 1 Tryz.underlying22 hi hz0 hz1 hz2 rfl (by omega) v bs.length (bs.map fun (b : UInt8) => Value.int .u8 (b.toNat : Int)) h' ⟨w.heap.size, 0, none⟩ 1 1 [.int .u8 (x.toNat : Int)] rfl
    (fun j u hj => by
      cases j with
      | zero => simp at hj; subst hj; simp [Addr.add]
      | succ j => simp at hj) (fun u hu => by simp at hu; subst hu; rfl) (by unfold maxLen; omega) (by omega) (by simp; omega)
  refine ⟨v', w', hr, ?_, (((Below.refl base w).alloc hb _)).grown h3 (by simp; omega) (fun k hk => ?_)⟩
  · unfold Oy
    rw [List.length_append, List.map_append]
    exact h2
  · rcases h.2 with ⟨rfl, _⟩ | ⟨g, c, cur, rfl, h1, _⟩
    · cases hk
    · have : g = k := by injection hk
      omega
def digs16 : ByteArray := (⟨#[48, 49, 50, 51, 52, 53, 54, 55, 56, 57, 97, 98, 99, 100, 101, 102]⟩ : ByteArray)
theorem digs16_fin : ∀ d : Fin 16, digs16[d.val]'(by have := d.isLt; show d.val < 16; omega) = hexD d.val := by decide +kernel
theorem digs16_at (d : Nat) (hd : d < 16) (h : d < digs16.size) : digs16[d]'h = hexD d := digs16_fin ⟨d, hd⟩
theorem and15i (m : Nat) (h : m < 4294967296) : bits BinOp.and IntKind.i64 (m : Nat) 15 = ((m % 16 : Nat) : Int) := by
  have := bits_mask .i64 32 (by decide) (fun n h0 h1 => by simp [IntKind.wrap, IntKind.bits, IntKind.signed]; omega) 4 (by decide) (m : Int) (by omega) (by omega)
  rw [show ((m % 16 : Nat) : Int) = (m : Int) % 2 ^ 4 by omega]
  exact this
theorem hexK_step (j n : Nat) (hj : j < 8) : hexK (j + 1) (n / 16 ^ (8 - (j + 1))) = hexK j (n / 16 ^ (8 - j)) ++ [hexD (n / 16 ^ (7 - j) % 16)] := by
  rw [hexK, show 8 - (j + 1) = 7 - j by omega, Nat.div_div_eq_div_mul, ← Nat.pow_succ, show (7 - j).succ = 8 - j by omega]
theorem Oy.bytes {w : World} {base : Nat} {v : Value} {bs : List UInt8} (h : Oy w base v bs) : (convert 22 9 v).run Tryz.prog w = .ok (.string (ofB bs)) w := by
  rcases h.2 with ⟨rfl, h0⟩ | ⟨g, c, cur, rfl, h1, h2, h3, h4, h5, h6⟩
  · have : bs = [] := List.eq_nil_of_length_eq_zero (by simpa using h0)
    subst this
    exact run_convert_bytes_nil (P := Tryz.prog) w 22 5 Tryz.underlying22 Tryz.underlying5 0 0 9 Tryz.underlying9
  · refine run_convert_bytes_back (P := Tryz.prog) w 22 9 5 ⟨g, 0, none⟩ c bs Tryz.underlying22 Tryz.underlying5 Tryz.underlying9 (fun j hj => ?_)
    rw [addAt, Nat.zero_add]
    simp only [World.cell?, h2]
    have e : cur[j]? = (bs.map fun (b : UInt8) => Value.int .u8 (b.toNat : Int))[j]? := by
      rw [← h6, List.getElem?_take_of_lt (by omega)]
      simp
    simp [e, hj]
end Go.Proofs.YticeapacffgikaaGreatDoor
