/- Texts of lists of numbers, on both sides. -/
import Derived.Test.YticeapacffgikaaGreatDoorGd
import Derived.Test.YticeapacffgikaaGreatDoorGs
import Derived.Test.YticeapacffgikaaGreatDoorTs
namespace Go.Proofs.YticeapacffgikaaGreatDoor
set_option maxRecDepth 100000
set_option linter.unusedVariables false
open Go.Lib Go.RowKit Go.Sort
def hexs (xs : List Nat) : List (List UInt8) := xs.map fun x => hexK 8 (bitsC (cn .f32 x))
def textB (xs : List Nat) : ByteArray := if xs = [] then ofB [110, 111, 110, 101] else ofB (Lib.join (hexs xs) [44])
theorem hexs_size (xs : List Nat) (h : xs ≠ []) : (ofB (Lib.join (hexs xs) [44])).size + 1 = 9 * xs.length := by
  rw [ofB_size, join_len8 8 (hexs xs) (fun y hy => by obtain ⟨x, _, rfl⟩ := List.mem_map.1 hy; exact hexK_len _ _) (by simpa [hexs] using h)]
  simp [hexs]
theorem take_get {α : Type} (xs : List α) (k : Nat) (d : α) (h : k < xs.length) : xs.take (k + 1) = xs.take k ++ [xs.getD k d] := by
  rw [List.take_add_one, List.getD_eq_getElem?_getD, List.getElem?_eq_getElem h]; rfl
theorem hexs_step (xs : List Nat) (k : Nat) (h0 : 1 ≤ k) (h : k < xs.length) : ofB (Lib.join (hexs (xs.take (k + 1))) [44]) = ofB (Lib.join (hexs (xs.take k)) [44]) ++ (⟨#[44]⟩ ++ ofB (hexK 8 (bitsC (cn .f32 (xs.getD k 0))))) := by
  rw [take_get xs k 0 h, show hexs (xs.take k ++ [xs.getD k 0]) = hexs (xs.take k) ++ [hexK 8 (bitsC (cn .f32 (xs.getD k 0)))] by unfold hexs; simp]
  have e : (⟨#[44]⟩ : ByteArray) = ofB [44] := rfl
  rw [e, ofB_app, ofB_app]
  cases hq : hexs (xs.take k) with
  | nil =>
    have := congrArg List.length hq
    simp only [hexs, List.length_map, List.length_take, List.length_nil] at this
    omega
  | cons a r => rw [join_snoc]; rfl
/-- what both sides give -/
def textN (xs : List Nat) : ByteArray × Bool := if xs.length ≤ 256 then (textB xs, true) else (ofB [], false)
def hexB (xs : List Nat) : List ByteArray := (hexs xs).map ofB
theorem hexB_data (xs : List Nat) : (hexB xs).map (·.data.toList) = hexs xs := by
  unfold hexB
  rw [List.map_map]
  conv => rhs; rw [← List.map_id (hexs xs)]
  rfl
theorem hexB_step (xs : List Nat) (k : Nat) (h : k < xs.length) : hexB (xs.take (k + 1)) = hexB (xs.take k) ++ [ofB (hexK 8 (bitsC (cn .f32 (xs.getD k 0))))] := by
  rw [take_get xs k 0 h]
  simp [hexB, hexs]
theorem hexB_len (xs : List Nat) : (hexB xs).length = xs.length := by simp [hexB, hexs]
theorem hexB_join (xs : List Nat) : joinB (hexB xs) = textB xs := by
  unfold joinB textB
  rw [hexB_data]
  cases xs with
  | nil => rfl
  | cons x r => rw [if_neg (by simp [hexB, hexs]), if_neg (by simp)]
set_option maxHeartbeats 2000000 in
theorem impl_NumbersText (a : Option Addr) (cap : Nat) (xs : List Nat) (hw : ∀ j, j < xs.length → xs.getD j 0 < 4294967296) (w : World) (hs : Fs w a xs) (h16 : Db16 w) :
    Calls Tryz.prog 12 #[.slice a xs.length cap] w (RetB (.tuple #[.string (textN xs).1, .bool (textN xs).2]) w) := by
  by_cases hl : xs.length ≤ 256
  · have T := Lib.hid (show textN xs = (textB xs, true) from if_pos hl)
    have HS := Lib.hid hs
    have HW := Lib.hid hw
    have H6 := Lib.hid h16
    have O0 := Lib.hid (Ows_empty w w.heap.size (Nat.le_refl _))
    have hl2 : ¬ (256 < (xs.length : Int)) := by omega
    clear hs hw h16
    go_enter Tryz.func12, Tryz.ntmps12
    go_wp2
    go_loopw [4, 6, 13] (fun v n i wr => ∃ (k : Nat), k ≤ xs.length ∧ i = .int .i64 (k : Nat) ∧ Hid (Ows wr w.heap.size v (hexB (xs.take k))) ∧ Hid (Below w.heap.size w wr)) (fun _ _ i _ => xs.length - (Lib.intOf i).toNat)
    case atStart => exact ⟨0, Nat.zero_le _, rfl, O0.out, (Below.refl _ _).alloc (Nat.le_refl _) _⟩
    case round =>
      clear O0
      obtain ⟨k, hk, rfl, hO, hB⟩ := hrel
      by_cases hlt : k < xs.length
      · obtain ⟨b, off, rfl, _, hc⟩ := (HS.out.below hB.out).at (k := k) hlt
        have r1 := hc k hlt
        have C := Lib.hid (fun w h => impl_hexOf (xs.getD k 0) (HW.out k hlt) w h)
        have ST := Lib.hid (hexB_step xs k hlt)
        generalize ofB (hexK 8 (bitsC (cn .f32 (xs.getD k 0)))) = hx8 at *
        generalize xs.getD k 0 = x at *
        have s1 : (0 : Int) ≤ (k : Nat) := by omega
        have s2 : (k : Int) < (xs.length : Nat) := by omega
        clear hc
        go_wp2_with fail
        refine (C.out _ (H6.out.below hB.out)).mono ?_
        rintro _ w2 ⟨rfl, hB2⟩
        have B2 := Lib.hid (hB.out.trans (hB2.mono hB.out.size))
        have O2 := Lib.hid (hO.out.below hB2)
        clear hB2 r1 C
        obtain ⟨v2, w4, hrun, hO2, hG⟩ := run_pushS w2 w.heap.size _ _ hx8 O2.out B2.out.size (by rw [hexB_len, List.length_take]; omega) 58
        have H3 := Lib.hid (And.intro hO2 (B2.out.trans hG))
        clear hO2 hG
        go_wp2_with (at_builtin; refine Lib.wpList_append_run _ rfl (.tmp 17) (.tmp 20) 58 58 rfl _ _ rfl rfl _ _ hrun ?_)
        go_roundw
        case rel =>
          refine ⟨k + 1, by omega, by go_num, ?_, H3.out.2⟩
          show Ows _ _ _ (hexB (xs.take (k + 1)))
          rw [ST.out]
          exact H3.out.1
        case measure => simp [Lib.intOf]; omega
      · obtain rfl : k = xs.length := by omega
        have O2 := Lib.hid (show Ows _ _ _ (hexB xs) by have := hO.out; rwa [List.take_length] at this)
        have J := Lib.hid (show (Lib.join ((hexB xs).map (·.data.toList)) [44]).length ≤ 140737488355328 by
          rw [hexB_data]
          by_cases h0 : xs = []
          · subst h0; simp [hexs, Lib.join]
          · have := hexs_size xs h0
            rw [ofB_size] at this
            omega)
        clear hO
        go_wp2_with (go_at_call 32; refine (impl_listOrNone _ (hexB xs) w.heap.size (by rw [hexB_len]; omega) J.out _ O2.out).mono ?_; rintro _ w2 ⟨rfl, hB2⟩; have B2 := Lib.hid (hB.out.trans (hB2.mono hB.out.size)); clear hB2)
        go_ret2
        exact ⟨by rw [T.out, hexB_join]; rfl, B2.out⟩
  · have T := Lib.hid (show textN xs = (ofB [], false) from if_neg hl)
    have hl2 : 256 < (xs.length : Int) := by omega
    clear hl
    go_enter Tryz.func12, Tryz.ntmps12
    go_wp2
    go_ret2
    exact ⟨by rw [T.out]; rfl, Below.refl _ _⟩
end Go.Proofs.YticeapacffgikaaGreatDoor
