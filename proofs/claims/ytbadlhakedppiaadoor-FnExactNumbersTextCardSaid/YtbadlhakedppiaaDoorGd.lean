/- The reference's text of a number's bits. -/
import Derived.Test.YtbadlhakedppiaaDoorGc
import Derived.Lib.AppendZeros
import Derived.Laws.AppendOwn
import Derived.Laws.BytesArg
namespace Go.Proofs.YtbadlhakedppiaaDoor
set_option maxRecDepth 100000
set_option linter.unusedVariables false
open Go.Lib Go.RowKit Go.Sort
/-- a slice of the call's own that holds these bytes -/
def Oy (w : World) (base : Nat) (v : Value) (bs : List UInt8) : Prop := w.ownsRow base 5 1 v bs.length (bs.map fun (b : UInt8) => Value.int .u8 (b.toNat : Int))
theorem Oy.below {w w' : World} {b : Nat} {v : Value} {bs : List UInt8} (h : Oy w b v bs) (hB : Below w.heap.size w w') : Oy w' b v bs := by
  refine ⟨h.1, ?_⟩
  rcases h.2 with q | ⟨g, c, cur, e, h1, h2, r⟩
  · exact .inl q
  · exact .inr ⟨g, c, cur, e, h1, by rw [hB.block g (Array.getElem?_eq_some_iff.1 h2).1]; exact h2, r⟩
theorem Oy_empty (w : World) (base : Nat) (h : base ≤ w.heap.size) : Oy (w.alloc (.cells #[] 5)) base (.slice (some ⟨w.heap.size, 0, none⟩) 0 0) [] :=
  ⟨rfl, .inr ⟨w.heap.size, 0, #[], rfl, h, heap_alloc_new w _, Nat.le_refl _, by simp, rfl, rfl⟩⟩
theorem run_pushY (w : World) (base : Nat) (v : Value) (bs : List UInt8) (x : UInt8) (h : Oy w base v bs) (hb : base ≤ w.heap.size) (hl : bs.length ≤ 1048577) (ty : TypeId) :
    ∃ v' w', (Builtin.append_ #[64, 64] ty #[v, .slice (some ⟨w.heap.size, 0, none⟩) 1 1]).run Tryd.prog (w.alloc (.cells #[.int .u8 (x.toNat : Int)] 5)) = .ok v' w' ∧ Oy w' base v' (bs ++ [x]) ∧ Below base w w' := by
  obtain ⟨i, hi, hz0, hz1, hz2⟩ := info_parts (P := Tryd.prog) (e := 5) (z := .int .u8 0) (size := 1) (bytes := 1) (by kernel_rfl)
  have h' : Oy (w.alloc (.cells #[.int .u8 (x.toNat : Int)] 5)) base v bs := h.below ((Below.refl _ _).alloc (Nat.le_refl _) _)
  obtain ⟨v', w', hr, h2, h3, _, _⟩ := run_append_own_at (P := Tryd.prog) (w.alloc (.cells #[.int .u8 (x.toNat : Int)] 5)) base 64 ty 5 i (.int .u8 0) 1 1 Tryd.underlying64 hi hz0 hz1 hz2 rfl (by omega) v bs.length (bs.map fun (b : UInt8) => Value.int .u8 (b.toNat : Int)) h' ⟨w.heap.size, 0, none⟩ 1 1 [.int .u8 (x.toNat : Int)] rfl
    (fun j u hj => by
      cases j with
      | zero => simp at hj; subst hj; simp [Addr.add]
      | succ j => simp at hj) (fun u hu => by simp at hu; subst hu; rfl) (by unfold maxLen; omega) (by omega) (by simp; omega)
  refine ⟨v', w', hr, ?_, (((Below.refl base w).alloc hb _)).grown h3 (by simp; omega) (fun k hk => ?_)⟩
  · unfold Oy
    rw [List.length_append, List.map_append]
    exact h2
  · rcases h.2 with ⟨rfl, _⟩ | ⟨g, c, cur, rfl, h1, _⟩
    · cases hk
    · have : g = k := by injection hk
      omega
def digs16 : ByteArray := (⟨#[48, 49, 50, 51, 52, 53, 54, 55, 56, 57, 97, 98, 99, 100, 101, 102]⟩ : ByteArray)
theorem digs16_fin : ∀ d : Fin 16, digs16[d.val]'(by have := d.isLt; show d.val < 16; omega) = hexD d.val := by decide +kernel
theorem digs16_at (d : Nat) (hd : d < 16) (h : d < digs16.size) : digs16[d]'h = hexD d := digs16_fin ⟨d, hd⟩
theorem and15i (m : Nat) (h : m < 4294967296) : bits BinOp.and IntKind.i64 (m : Nat) 15 = ((m % 16 : Nat) : Int) := by
  have := bits_mask .i64 32 (by decide) (fun n h0 h1 => by simp [IntKind.wrap, IntKind.bits, IntKind.signed]; omega) 4 (by decide) (m : Int) (by omega) (by omega)
  rw [show ((m % 16 : Nat) : Int) = (m : Int) % 2 ^ 4 by omega]
  exact this
theorem hexK_step (j n : Nat) (hj : j < 8) : hexK (j + 1) (n / 16 ^ (8 - (j + 1))) = hexK j (n / 16 ^ (8 - j)) ++ [hexD (n / 16 ^ (7 - j) % 16)] := by
  rw [hexK, show 8 - (j + 1) = 7 - j by omega, Nat.div_div_eq_div_mul, ← Nat.pow_succ, show (7 - j).succ = 8 - j by omega]
theorem Oy.bytes {w : World} {base : Nat} {v : Value} {bs : List UInt8} (h : Oy w base v bs) : (convert 64 9 v).run Tryd.prog w = .ok (.string (ofB bs)) w := by
  rcases h.2 with ⟨rfl, h0⟩ | ⟨g, c, cur, rfl, h1, h2, h3, h4, h5, h6⟩
  · have : bs = [] := List.eq_nil_of_length_eq_zero (by simpa using h0)
    subst this
    exact run_convert_bytes_nil (P := Tryd.prog) w 64 5 Tryd.underlying64 Tryd.underlying5 0 0 9 Tryd.underlying9
  · refine run_convert_bytes_back (P := Tryd.prog) w 64 9 5 ⟨g, 0, none⟩ c bs Tryd.underlying64 Tryd.underlying5 Tryd.underlying9 (fun j hj => ?_)
    rw [addAt, Nat.zero_add]
    simp only [World.cell?, h2]
    have e : cur[j]? = (bs.map fun (b : UInt8) => Value.int .u8 (b.toNat : Int))[j]? := by
      rw [← h6, List.getElem?_take_of_lt (by omega)]
      simp
    simp [e, hj]
set_option maxHeartbeats 1000000 in
theorem spec_l01Hex (x : Nat) (hx : x < 4294967296) (w : World) : Calls Tryd.prog 29 #[.float .f32 x] w (RetB (.string (ofB (hexK 8 (bitsC (cn .f32 x))))) w) := by
  have hn := bitsC_lt hx
  have C0 := Lib.hid (fun w => spec_l01Bits x hx w)
  generalize bitsC (cn .f32 x) = n at *
  go_enter Tryd.func29, Tryd.ntmps29
  go_wp2_with fail
  refine (C0.out _).mono ?_
  rintro _ _ ⟨n1, rfl, rfl⟩
  go_wp2
  go_loopw [4, 5] (fun v k wr => ∃ (j : Nat), j ≤ 8 ∧ k = .int .i64 (28 - 4 * (j : Nat)) ∧ Hid (Oy wr w.heap.size v (hexK j (n / 16 ^ (8 - j)))) ∧ Hid (Below w.heap.size w wr)) (fun _ k _ => (Lib.intOf k + 4).toNat)
  case atStart => exact ⟨0, by omega, rfl, Oy_empty _ _ (Nat.le_refl _), below_dN.trans ((Below.refl w.heap.size (w.drewN n1)).alloc (Nat.le_refl _) _)⟩
  case round =>
    obtain ⟨j, hj, rfl, hO, hB⟩ := hrel
    by_cases h8 : j < 8
    · obtain ⟨d, hd⟩ : ∃ d, d = n / 16 ^ (7 - j) % 16 := ⟨_, rfl⟩
      have hd16 : d < 16 := by rw [hd]; exact Nat.mod_lt _ (by omega)
      have hand : bits BinOp.and IntKind.i64 ((n : Int) / 2 ^ (28 - 4 * j)) 15 = (d : Nat) := by
        have e : ((n : Int) / 2 ^ (28 - 4 * j)) = ((n / 16 ^ (7 - j) : Nat) : Int) := by
          rw [show (16 : Nat) ^ (7 - j) = 2 ^ (28 - 4 * j) by rw [show (16 : Nat) = 2 ^ 4 by rfl, ← Nat.pow_mul]; congr 1; omega]
          simp
        rw [e, and15i _ (Nat.lt_of_le_of_lt (Nat.div_le_self _ _) hn), hd]
      have hg : (⟨#[48, 49, 50, 51, 52, 53, 54, 55, 56, 57, 97, 98, 99, 100, 101, 102]⟩ : ByteArray)[d]'hd16 = hexD d := digs16_at d hd16 _
      obtain ⟨v2, w2, hrun, hO2, hG⟩ := run_pushY wr w.heap.size _ _ ((⟨#[48, 49, 50, 51, 52, 53, 54, 55, 56, 57, 97, 98, 99, 100, 101, 102]⟩ : ByteArray)[d]'hd16) hO.out hB.out.size (by rw [hexK_len]; omega) 64
      have H2 := Lib.hid (And.intro hO2 (And.intro (hB.out.trans hG) (And.intro hg hd)))
      clear hO2 hG hg hd
      go_wp2_with (at_builtin; refine Lib.wpList_append_run _ rfl (.tmp 13) (.tmp 20) 64 64 rfl _ _ rfl rfl _ _ hrun ?_)
      go_roundw
      case rel =>
        refine ⟨j + 1, by omega, by go_num, ?_, H2.out.2.1⟩
        show Oy _ _ _ (hexK (j + 1) (n / 16 ^ (8 - (j + 1))))
        rw [hexK_step j n h8, ← H2.out.2.2.2, ← H2.out.2.2.1]
        exact H2.out.1
      case measure => simp [Lib.intOf]; omega
    · obtain rfl : j = 8 := by omega
      have hcv := hO.out.bytes
      go_wp2
      go_ret
      exact ⟨by simp, hB.out⟩
end Go.Proofs.YtbadlhakedppiaaDoor
