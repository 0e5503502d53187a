/- The program's text of a number's bits. -/
import Derived.Test.YtkemghecglbleaaGreatDoorGb
import Derived.Test.YtkemghecglbleaaGreatDoorYa
namespace Go.Proofs.YtkemghecglbleaaGreatDoor
set_option maxRecDepth 100000
set_option linter.unusedVariables false
open Go.Lib Go.RowKit Go.Sort
def ofB (l : List UInt8) : ByteArray := ⟨l.toArray⟩
def RetB (v : Value) (w : World) (e : Ending) (w' : World) : Prop := e = .returned v ∧ Below w.heap.size w w'
/-- the entry of the library's table that base 16 reads -/
def Db16 (w : World) : Prop := w.cell? ⟨6, 15, none⟩ = some (.int .u8 4)
theorem Db16.below {w w' : World} (h : Db16 w) (hb : Below w.heap.size w w') : Db16 w' := (hb.cell (p := ⟨_, 15, none⟩) (World.block_lt_of_cell? w _ h)).trans h
theorem below_dN {w : World} {n : Nat} : Below w.heap.size w (w.drewN n) := ⟨rfl, rfl, rfl, Nat.le_refl _, fun _ _ => rfl⟩
theorem bitsC_lt {x : Nat} (hx : x < 4294967296) : bitsC (cn .f32 x) < 4294967296 := by
  unfold cn
  split
  · decide
  · exact hx
theorem fmt16 (n : Nat) (hn : n < 4294967296) (w : World) (h : Db16 w) : Calls Tryz.prog 55 #[.int .i64 n, .int .i64 16] w (RetB (.string (ofB (hexL n))) w) := by
  have H := Lib.hid h
  clear h
  have C : Calls Tryz.prog 67 #[.int .i64 n, .int .i64 16] w (RetB (.string (ofB (hexL n))) w) := by
    have n0 : ¬ ((n : Int) < 0) := by omega
    go_enter Tryz.func67, Tryz.ntmps67
    go_wp2_with (go_at_call 82; refine (formatBits16 n hn _ H.out).mono ?_; rintro _ w1 ⟨rfl, hB⟩; have B1 := Lib.hid hB; clear hB)
    go_ret
    exact ⟨rfl, B1.out⟩
  go_enter Tryz.func55, Tryz.ntmps55
  go_wp2_with (go_at_call 67; refine C.mono ?_; rintro _ w1 ⟨rfl, hB⟩; have B1 := Lib.hid hB; clear hB)
  go_ret
  exact ⟨rfl, B1.out⟩
theorem ofB_size (l : List UInt8) : (ofB l).size = l.length := by show l.toArray.size = _; simp
theorem ofB_app (a b : List UInt8) : ofB a ++ ofB b = ofB (a ++ b) := by
  apply ByteArray.ext
  apply Array.ext'
  simp [ofB]
theorem repeat_one (c : Nat) : Lib.repeatL [48] c = List.replicate c 48 := by
  induction c with
  | zero => rfl
  | succ c ih => rw [Lib.repeatL, ih]; rfl
set_option maxHeartbeats 1000000 in
theorem impl_hexOf (x : Nat) (hx : x < 4294967296) (w : World) (h : Db16 w) : Calls Tryz.prog 35 #[.float .f32 x] w (RetB (.string (ofB (hexK 8 (bitsC (cn .f32 x))))) w) := by
  have hn := bitsC_lt hx
  have C0 := Lib.hid (fun w => impl_BitsOf x hx w)
  generalize bitsC (cn .f32 x) = n at *
  have hl := hexL_len 8 n (by omega) (by omega)
  have hp := Lib.hid (hexL_pad 8 n (by omega) (by omega))
  have hsz : (ofB (hexL n)).size = (hexL n).length := ofB_size _
  have H := Lib.hid h
  clear h
  go_enter Tryz.func35, Tryz.ntmps35
  go_wp2_with fail
  refine (C0.out _).mono ?_
  rintro _ _ ⟨n1, rfl, rfl⟩
  go_wp2_with fail
  refine (fmt16 n hn _ (H.out.below below_dN)).mono ?_
  rintro _ w1 ⟨rfl, hB⟩
  have B1 := Lib.hid (below_dN.trans (hB.mono (Nat.le_refl _)))
  clear hB
  go_wp2_with fail
  rw [show (8 - ((hexL n).length : Int)) = ((8 - (hexL n).length : Nat) : Int) by omega]
  refine (Tryz.strings_Repeat ⟨#[48]⟩ (8 - (hexL n).length) _ (by omega) (by show 1 * _ ≤ _; omega)).mono ?_
  rw [show (Lib.repeatL (⟨#[48]⟩ : ByteArray).data.toList (8 - (hexL n).length)) = List.replicate (8 - (hexL n).length) 48 from repeat_one _]
  rintro _ w2 ⟨rfl, hB⟩
  have B2 := Lib.hid (B1.out.trans (hB.mono B1.out.size))
  clear hB
  have hz : (ofB (List.replicate (8 - (hexL n).length) 48)).size = 8 - (hexL n).length := by rw [ofB_size]; simp
  go_wp2
  go_ret
  refine ⟨?_, B2.out⟩
  rw [← hp.out, ← ofB_app]
  rfl
end Go.Proofs.YtkemghecglbleaaGreatDoor
