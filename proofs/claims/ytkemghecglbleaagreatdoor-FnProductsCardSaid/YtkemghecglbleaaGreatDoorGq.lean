/- The program's reading of one number of 8 hexadecimal digits. -/
import Derived.Test.YtkemghecglbleaaGreatDoorGp
import Derived.Test.YtkemghecglbleaaGreatDoorGk
namespace Go.Proofs.YtkemghecglbleaaGreatDoor
set_option maxRecDepth 100000
set_option linter.unusedVariables false
open Go.Lib Go.RowKit Go.Sort
def RetPS (l : List UInt8) (w : World) (e : Ending) (w' : World) : Prop :=
  Below w.heap.size w w' ∧ ((∃ n, puS l = some n ∧ e = .returned (.tuple #[.int .u64 (n : Nat), .nilIface])) ∨ (puS l = none ∧ ∃ (x : Int) (t : TypeId) (p : Value), e = .returned (.tuple #[.int .u64 x, .iface t p])))
theorem strconv_ParseUint16 (s : ByteArray) (hs : s.size ≤ 1048576) (w : World) (hw : Ev2 w) :
    Calls Tryz.prog 59 #[.string s, .int .i64 16, .int .i64 32] w (RetPS s.data.toList w) := by
  have HW := Lib.hid hw
  clear hw
  go_enter Tryz.func59, Tryz.ntmps59
  go_wp2_with fail
  refine (parseUint16 s hs _).mono ?_
  rintro _ w1 ⟨hB, ⟨n, hp, rfl⟩ | ⟨hp, x, er, her, rfl⟩⟩
  · have B1 := Lib.hid hB
    have P1 := Lib.hid hp
    clear hB hp
    go_wp2
    go_ret2
    exact ⟨B1.out, .inl ⟨n, P1.out, rfl⟩⟩
  · obtain ⟨⟨⟨t1, p1, h1⟩, t2, p2, h2⟩, m, h3⟩ := HW.out.below hB
    have B1 := Lib.hid hB
    have P1 := Lib.hid hp
    have H1 := Lib.hid h1
    have H2 := Lib.hid h2
    clear hB hp h1 h2 h3
    rcases her with rfl | rfl
    · go_wp2_with fail
      refine (Tryz.strconv_toError_range _ s 16 32 _ _ (by omega) H2.out (.inr ⟨_, _, rfl⟩)).mono ?_
      rintro _ w2 ⟨N, rfl, _, _, hB2⟩
      have B2 := Lib.hid (B1.out.trans (hB2.mono B1.out.size))
      clear hB2
      go_wp2
      go_ret2
      exact ⟨B2.out, .inr ⟨P1.out, x, _, _, rfl⟩⟩
    · go_wp2_with fail
      refine (Tryz.strconv_toError_syntax _ s 16 32 _ _ (by omega) H1.out (.inr ⟨_, _, rfl⟩)).mono ?_
      rintro _ w2 ⟨N, rfl, _, _, hB2⟩
      have B2 := Lib.hid (B1.out.trans (hB2.mono B1.out.size))
      clear hB2
      go_wp2
      go_ret2
      exact ⟨B2.out, .inr ⟨P1.out, x, _, _, rfl⟩⟩
theorem bitsC_canon {n : Nat} (h : n < 4294967296) : bitsC (cn .f32 n) = canon n := by
  unfold cn canon
  rw [read_isNaN, f32_sign, f32_inf]
  by_cases q : 2139095040 < n % 2147483648
  · rw [if_pos (by simpa using q), if_pos q]; rfl
  · rw [if_neg (by simpa using q), if_neg q]; rfl
theorem puS_lt {l : List UInt8} {n : Nat} (h : puS l = some n) : n < 4294967296 := by
  unfold puS at h
  split at h
  · cases h
  · exact pu_lt l 0 n (by omega) h
theorem digI_none {l : List UInt8} (h : puS l = none) : digI l = none := by
  unfold digI puS at *
  split
  · rfl
  · rename_i q
    rw [if_neg q] at h
    rw [h]; rfl
theorem digI_some {l : List UInt8} {n : Nat} (h : puS l = some n) : digI l = if hexK 8 (canon n) = l then some n else none := by
  unfold digI puS at *
  split at h
  · cases h
  · rename_i q
    rw [if_neg q, h]; rfl
/-- a number and whether it is one -/
def RetDig (l : List UInt8) (w : World) (e : Ending) (w' : World) : Prop :=
  Below w.heap.size w w' ∧ ∃ x : Nat, e = .returned (.tuple #[.float .f32 x, .bool (digS l).isSome]) ∧ ∀ n, digS l = some n → x = n
theorem RetDig.mk {l : List UInt8} {w w' : World} {x : Nat} {b : Bool} (hB : Below w.heap.size w w') (hb : (digI l).isSome = b) (h : ∀ n, digI l = some n → x = n) : RetDig l w (.returned (.tuple #[.float .f32 x, .bool b])) w' := by
  refine ⟨hB, x, ?_, ?_⟩
  · rw [dig_eq, hb]
  · rw [dig_eq]; exact h
theorem str_beq {a b : ByteArray} (h : a = b) : (a.toList == b.toList) = true := by rw [h]; exact beq_iff_eq.2 rfl
theorem str_bne {a b : ByteArray} (h : ¬ a = b) : (a.toList == b.toList) = false := by
  refine beq_eq_false_iff_ne.2 fun q => h ?_
  rw [ByteArray.toList_eq, ByteArray.toList_eq] at q
  apply ByteArray.ext
  exact Array.toList_inj.1 q
theorem ofB_eq {l : List UInt8} {s : ByteArray} : ofB l = s ↔ l = s.data.toList := by
  constructor
  · rintro rfl; rfl
  · rintro rfl; rfl
set_option maxHeartbeats 1000000 in
theorem impl_readHex (s : ByteArray) (hs : s.size ≤ 1048576) (w : World) (hw : Wd w) :
    Calls Tryz.prog 38 #[.string s] w (RetDig s.data.toList w) := by
  have HW := Lib.hid hw
  clear hw
  have e1 := ext_f32from
  go_enter Tryz.func38, Tryz.ntmps38
  go_wp2_with fail
  refine (strconv_ParseUint16 s hs _ HW.out.2).mono ?_
  rintro _ w1 ⟨hB, ⟨n, hp, rfl⟩ | ⟨hp, x, t, p, rfl⟩⟩
  · have hn := puS_lt hp
    have P := Lib.hid (digI_some hp)
    have B1 := Lib.hid hB
    clear hB hp
    by_cases hx : hexK 8 (canon n) = s.data.toList
    · have PP := Lib.hid (P.out.trans (if_pos hx))
      have eq1 := str_beq (ofB_eq.2 hx)
      have C := Lib.hid (fun w h => bitsC_canon hn ▸ impl_hexOf n hn w h)
      clear hx
      generalize hexK 8 (canon n) = hx8 at *
      go_wp2_with fail
      refine (C.out _ (HW.out.1.below B1.out)).mono ?_
      rintro _ w2 ⟨rfl, hB2⟩
      have B2 := Lib.hid (B1.out.trans (hB2.mono B1.out.size))
      clear hB2
      go_wp2
      go_ret2
      exact RetDig.mk B2.out (by rw [PP.out]; rfl) (fun k hk => by rw [PP.out] at hk; injection hk)
    · have PP := Lib.hid (P.out.trans (if_neg hx))
      have eq1 := str_bne (fun q => hx (ofB_eq.1 q))
      have C := Lib.hid (fun w h => bitsC_canon hn ▸ impl_hexOf n hn w h)
      clear hx
      generalize hexK 8 (canon n) = hx8 at *
      go_wp2_with fail
      refine (C.out _ (HW.out.1.below B1.out)).mono ?_
      rintro _ w2 ⟨rfl, hB2⟩
      have B2 := Lib.hid (B1.out.trans (hB2.mono B1.out.size))
      clear hB2
      go_wp2
      go_ret2
      exact RetDig.mk B2.out (by rw [PP.out]; rfl) (fun k hk => by rw [PP.out] at hk; cases hk)
  · have P := Lib.hid (digI_none hp)
    have B1 := Lib.hid hB
    clear hB hp
    go_wp2
    go_ret2
    exact RetDig.mk B1.out (by rw [P.out]; rfl) (fun k hk => by rw [P.out] at hk; cases hk)
end Go.Proofs.YtkemghecglbleaaGreatDoor
