/- The library's base-16 text of a number that is not negative. -/
import Derived.Test.YtkemghecglbleaaGreatDoorGa
import Derived.Test.YtkemghecglbleaaGreatDoorSh
import Derived.Lib.Hide
import Derived.Lib.ConvBytes
import Derived.Laws.NewBlocks
import Derived.Laws.IdiomStrings
import Derived.Laws.BitsLemmas
import Derived.WalkKit
import Derived.OwnWalk
namespace Go.Proofs.YtkemghecglbleaaGreatDoor
set_option maxRecDepth 100000
set_option linter.unusedVariables false
open Go.Lib Go.RowKit Go.Sort
theorem bits_tz (w : World) (h : w.cell? ⟨6, 15, none⟩ = some (.int .u8 4)) : Calls Tryz.prog 101 #[.int .u64 16] w (fun e w' => e = .returned (.int .i64 4) ∧ w' = w) := by
  have C : Calls Tryz.prog 112 #[.int .u64 16] w (fun e w' => e = .returned (.int .i64 4) ∧ w' = w) := by
    have e : IntKind.u64.wrap (bits BinOp.and IntKind.u64 16 (IntKind.u64.wrap (-16)) * 285870213051353865) / 288230376151711744 = 15 := by kernel_rfl
    have h2 : w.cell? ⟨6, (IntKind.u64.wrap (bits BinOp.and IntKind.u64 16 (IntKind.u64.wrap (-16)) * 285870213051353865) / 288230376151711744).toNat, none⟩ = some (.int .u8 4) := by rw [e]; exact h
    clear e h
    go_enter Tryz.func112, Tryz.ntmps112
    go_wp2
    go_ret
    exact ⟨rfl, rfl⟩
  go_enter Tryz.func101, Tryz.ntmps101
  go_wp2_with (go_at_call 112; refine C.mono ?_; rintro _ _ ⟨rfl, rfl⟩)
  go_ret
  exact ⟨rfl, rfl⟩
theorem isPow16 (w : World) : Calls Tryz.prog 100 #[.int .i64 16] w (fun e w' => e = .returned (.bool true) ∧ w' = w) := by
  go_enter Tryz.func100, Tryz.ntmps100
  go_wp2
  go_ret
  exact ⟨rfl, rfl⟩

def digs36 : ByteArray := ⟨#[48, 49, 50, 51, 52, 53, 54, 55, 56, 57, 97, 98, 99, 100, 101, 102, 103, 104, 105, 106, 107, 108, 109, 110, 111, 112, 113, 114, 115, 116, 117, 118, 119, 120, 121, 122]⟩
theorem digs36_fin : ∀ d : Fin 16, digs36[d.val]'(by have := d.isLt; show d.val < 36; omega) = hexD d.val := by decide +kernel
theorem digs36_at (d : Nat) (hd : d < 16) (h : d < digs36.size) : digs36[d]'h = hexD d := digs36_fin ⟨d, hd⟩
def cellsA (bs : List UInt8) : Array Value := (List.replicate (65 - bs.length) (Value.int .u8 0) ++ bs.map (fun b => Value.int .u8 (b.toNat : Int))).toArray
theorem cellsA_size (bs : List UInt8) (h : bs.length ≤ 65) : (cellsA bs).size = 65 := by unfold cellsA; simp only [List.size_toArray, List.length_append, List.length_replicate, List.length_map]; omega
theorem cellsA_last (bs : List UInt8) (h : bs.length ≤ 64) : (cellsA bs)[65 - bs.length - 1]? = some (.int .u8 0) := by
  unfold cellsA
  rw [List.getElem?_toArray, List.getElem?_append_left (by rw [List.length_replicate]; omega), List.getElem?_replicate, if_pos (by omega)]
theorem cellsA_at (bs : List UInt8) (h : bs.length ≤ 65) (j : Nat) (hj : j < bs.length) : (cellsA bs)[65 - bs.length + j]? = some (.int .u8 (bs[j].toNat : Int)) := by
  unfold cellsA
  rw [List.getElem?_toArray, List.getElem?_append_right (by simp)]
  simp [hj]
theorem cellsA_set (bs : List UInt8) (h : bs.length ≤ 64) (b : UInt8) : (cellsA bs).setIfInBounds (65 - bs.length - 1) (.int .u8 (b.toNat : Int)) = cellsA (b :: bs) := by
  unfold cellsA
  apply Array.ext'
  rw [Array.toList_setIfInBounds]
  show (List.replicate (65 - bs.length) (Value.int .u8 0) ++ _).set (65 - bs.length - 1) _ = List.replicate (65 - (bs.length + 1)) (Value.int .u8 0) ++ _
  obtain ⟨k, hk⟩ : ∃ k, 65 - bs.length = k + 1 := ⟨65 - bs.length - 1, by omega⟩
  rw [hk, show 65 - (bs.length + 1) = k by omega, Nat.add_sub_cancel, List.replicate_succ', List.append_assoc, List.set_append_right _ _ (by simp)]
  simp
theorem addAt (N o k : Nat) : (⟨N, o, none⟩ : Addr).add k = ⟨N, o + k, none⟩ := by
  unfold Addr.add
  split
  · rename_i h; subst h; rfl
  · rfl
theorem slice65 (N k : Nat) (l : Int) (hl : l = (k : Int)) (hk : k < 65) (w : World) : (Instr.sliceAt 130 (.pointer (some ⟨N, 0, none⟩)) (some (.int .i64 l)) none none).run Tryz.prog w = .ok (.slice (some ⟨N, k, none⟩) (65 - k) (65 - k)) w := by
  have hL : Tryz.prog.arrayLen 130 = 65 := by kernel_rfl
  have hS : (sizeOf (Tryz.prog.elem 130)).run Tryz.prog w = .ok 1 w := by rfl
  subst hl
  rw [run_sliceAt_array_l w 130 ⟨N, 0, none⟩ (by kernel_rfl) .i64 (k : Int) (by omega) (by rw [hL]; omega), hS, hL]
  simp only [Result.andThen_ok, slicedAt, Int.toNat_natCast, Nat.mul_one]
  rw [if_neg (by omega)]
  rw [addAt, Nat.zero_add]
theorem conv65 (bs : List UInt8) (h : bs.length ≤ 64) (b : UInt8) (w : World) : (convert 22 9 (.slice (some ⟨w.heap.size, 65 - bs.length - 1, none⟩) (65 - (65 - bs.length - 1)) (65 - (65 - bs.length - 1)))).run Tryz.prog (w.alloc (.cells ((cellsA bs).setIfInBounds (65 - bs.length - 1) (.int .u8 (b.toNat : Int))) 130)) = .ok (.string ⟨(b :: bs).toArray⟩) (w.alloc (.cells ((cellsA bs).setIfInBounds (65 - bs.length - 1) (.int .u8 (b.toNat : Int))) 130)) := by
  rw [cellsA_set bs h b, show 65 - (65 - bs.length - 1) = (b :: bs).length by simp; omega]
  refine run_convert_bytes_back (P := Tryz.prog) (w.alloc (.cells (cellsA (b :: bs)) 130)) 22 9 5 ⟨w.heap.size, 65 - bs.length - 1, none⟩ _ (b :: bs) Tryz.underlying22 Tryz.underlying5 Tryz.underlying9 (fun j hj => ?_)
  have := cellsA_at (b :: bs) (by simp; omega) j hj
  rw [show 65 - (b :: bs).length + j = 65 - bs.length - 1 + j by simp; omega] at this
  rw [addAt, World.cell?_alloc_new]
  exact this
theorem and15 (m : Nat) (h : m < 4294967296) : bits BinOp.and IntKind.u64 (m : Nat) 15 = ((m % 16 : Nat) : Int) := by
  have := bits_mask .u64 32 (by decide) (fun n h0 h1 => by simp [IntKind.wrap, IntKind.bits, IntKind.signed]; omega) 4 (by decide) (m : Int) (by omega) (by omega)
  rw [show ((m % 16 : Nat) : Int) = (m : Int) % 2 ^ 4 by omega]
  exact this
set_option maxHeartbeats 2000000 in
theorem formatBits16 (n : Nat) (hn : n < 4294967296) (w : World) (h : w.cell? ⟨6, 15, none⟩ = some (.int .u8 4)) :
    Calls Tryz.prog 82 #[.slice none 0 0, .int .u64 n, .int .i64 16, .bool false, .bool false] w (fun e w' => e = .returned (.tuple #[.slice none 0 0, .string ⟨(hexL n).toArray⟩]) ∧ Below w.heap.size w w') := by
  have hl := hexL_len 8 n (by omega) (by omega)
  have hz : Tryz.zeroCells130 = cellsA [] := by kernel_rfl
  have hb6 : 6 < w.heap.size := World.block_lt_of_cell? w _ h
  have H := Lib.hid (show (w.alloc (.cells Tryz.zeroCells130 130)).cell? ⟨6, 15, none⟩ = some (.int .u8 4) from (World.cell?_alloc_lt w _ _ hb6).trans h)
  have HZ := Lib.hid hz
  clear h hz hb6
  go_enter Tryz.func82, Tryz.ntmps82
  go_wp2_with (first
    | (go_at_call 100; refine (isPow16 _).mono ?_; rintro _ _ ⟨rfl, rfl⟩)
    | (go_at_call 101; refine (bits_tz _ H.out).mono ?_; rintro _ _ ⟨rfl, rfl⟩))
  rw [HZ.out]
  go_loopw [1, 13] (fun u i wr => ∃ (m : Nat) (bs : List UInt8), m < 4294967296 ∧ bs.length ≤ 7 ∧ u = .int .u64 (m : Nat) ∧ i = .int .i64 (65 - (bs.length : Nat)) ∧ Hid (hexL m ++ bs = hexL n) ∧ wr = w.alloc (.cells (cellsA bs) 130)) (fun u _ _ => (Lib.intOf u).toNat)
  case atStart => exact ⟨n, [], hn, by simp, rfl, by simp, show hexL n ++ [] = hexL n from List.append_nil _, rfl⟩
  case round =>
    obtain ⟨m, bs, hm, hb, rfl, rfl, hx, rfl⟩ := hrel
    have c1 := cellsA_last bs (by omega)
    have s1 : (0 : Int) ≤ 65 - (bs.length : Nat) - 1 := by omega
    have s2 : (65 : Int) - (bs.length : Nat) - 1 ≤ 65 := by omega
    have hsl := fun w' => slice65 w.heap.size (65 - bs.length - 1) (65 - (bs.length : Nat) - 1) (by omega) (by omega) w'
    by_cases h16 : m < 16
    · have hd : (⟨#[48, 49, 50, 51, 52, 53, 54, 55, 56, 57, 97, 98, 99, 100, 101, 102, 103, 104, 105, 106, 107, 108, 109, 110, 111, 112, 113, 114, 115, 116, 117, 118, 119, 120, 121, 122]⟩ : ByteArray)[m]'(by show m < 36; omega) = hexD m := digs36_at m h16 _
      have hcv := conv65 bs (by omega) ((⟨#[48, 49, 50, 51, 52, 53, 54, 55, 56, 57, 97, 98, 99, 100, 101, 102, 103, 104, 105, 106, 107, 108, 109, 110, 111, 112, 113, 114, 115, 116, 117, 118, 119, 120, 121, 122]⟩ : ByteArray)[m]'(by show m < 36; omega)) w
      have HD := Lib.hid hd
      clear hd
      go_wp2
      go_ret2
      refine ⟨?_, (Below.refl _ _).alloc (Nat.le_refl _) _⟩
      have e := hx.out
      rw [hexL_small h16] at e
      rw [← e, ← HD.out]
      rfl
    · have hand := and15 m hm
      have hlt : m % 16 < 36 := by omega
      have hd : (⟨#[48, 49, 50, 51, 52, 53, 54, 55, 56, 57, 97, 98, 99, 100, 101, 102, 103, 104, 105, 106, 107, 108, 109, 110, 111, 112, 113, 114, 115, 116, 117, 118, 119, 120, 121, 122]⟩ : ByteArray)[m % 16]'hlt = hexD (m % 16) := digs36_at (m % 16) (by omega) _
      have HD := Lib.hid hd
      clear hd
      go_wp2
      go_roundw
      case rel =>
        refine ⟨m / 16, hexD (m % 16) :: bs, by omega, ?_, by go_num, by simp; omega, ?_, ?_⟩
        · have e := congrArg List.length hx.out
          rw [hexL_big h16, List.length_append, List.length_append] at e
          have := hexL_pos (m / 16)
          simp at e ⊢
          omega
        · show hexL (m / 16) ++ hexD (m % 16) :: bs = hexL n
          rw [← hx.out, hexL_big h16]
          simp
        · rw [← cellsA_set bs (by omega), ← HD.out]
      case measure => simp [Lib.intOf]; omega
end Go.Proofs.YtkemghecglbleaaGreatDoor
