/- The library's reading of a base-16 number of 32 bits. -/
import Derived.Test.YtkemghecglbleaaGreatDoorGc
import Derived.Lib.SmallJoins
import Derived.Deep.DeepCutAuto
import Derived.Deep.CutBlock
namespace Go.Proofs.YtkemghecglbleaaGreatDoor
set_option maxRecDepth 100000
set_option linter.unusedVariables false
open Go.Lib Go.RowKit Go.Sort
def puS (l : List UInt8) : Option Nat := if l = [] then none else pu 0 l
def lowN (c : Nat) : Nat := c ||| 32
theorem low_is (c : Nat) (h : c < 256) : bits BinOp.or IntKind.u8 (c : Nat) 32 = ((lowN c : Nat) : Int) := by
  have := fun c : Fin 256 => (show ∀ c : Fin 256, bits BinOp.or IntKind.u8 (c.val : Nat) 32 = ((lowN c.val : Nat) : Int) by decide +kernel) c
  exact this ⟨c, h⟩
theorem low_lt (c : Nat) (h : c < 256) : lowN c < 256 := by
  have := fun c : Fin 256 => (show ∀ c : Fin 256, lowN c.val < 256 by decide +kernel) c
  exact this ⟨c, h⟩
def lowP (c l : Nat) (o : Option Nat) : Prop := (48 ≤ c ∧ c ≤ 57 ∧ o = some (c - 48)) ∨ (58 ≤ c ∧ c ≠ 95 ∧ 97 ≤ l ∧ l ≤ 102 ∧ o = some (l - 87)) ∨ (58 ≤ c ∧ c ≠ 95 ∧ 103 ≤ l ∧ l ≤ 122 ∧ o = none) ∨ (c < 48 ∧ l < 97 ∧ o = none) ∨ (58 ≤ c ∧ c ≠ 95 ∧ l < 97 ∧ o = none) ∨ (58 ≤ c ∧ c ≠ 95 ∧ 122 < l ∧ o = none) ∨ (c = 95 ∧ l = 127 ∧ o = none)
instance (c l : Nat) (o : Option Nat) : Decidable (lowP c l o) := by unfold lowP; exact inferInstance
theorem lowCases : ∀ c : Fin 256, lowP c.val (lowN c.val) (hdg (UInt8.ofNat c.val)) := by decide +kernel
theorem low_cases (b : UInt8) : lowP b.toNat (lowN b.toNat) (hdg b) := by
  have h := lowCases ⟨b.toNat, b.toNat_lt⟩
  dsimp only at h
  rwa [UInt8.ofNat_toNat] at h
theorem strconv_lower (c : Nat) (h : c < 256) (w : World) : Calls Tryz.prog 91 #[.int .u8 c] w (fun e w' => e = .returned (.int .u8 (lowN c : Nat)) ∧ w' = w) := by
  have e := low_is c h
  go_enter Tryz.func91, Tryz.ntmps91
  go_wp2
  go_ret
  exact ⟨rfl, rfl⟩
/-- what the library hands back: the number, or some number and an error of its own -/
def RetPU (l : List UInt8) (w : World) (e : Ending) (w' : World) : Prop :=
  Below w.heap.size w w' ∧ ((∃ n, puS l = some n ∧ e = .returned (.tuple #[.int .u64 (n : Nat), .nilIface])) ∨ (puS l = none ∧ ∃ (x er : Int), (er = 1 ∨ er = 2) ∧ e = .returned (.tuple #[.int .u64 x, .iface 121 (.int .i64 er)])))
set_option maxHeartbeats 4000000 in
theorem parseUint16 (s : ByteArray) (hs : s.size ≤ 1048576) (w : World) :
    Calls Tryz.prog 75 #[.string s, .int .i64 16, .int .i64 32] w (RetPU s.data.toList w) := by
  by_cases h0 : s.data.toList = []
  · have e1 : s.toList.isEmpty = true := by rw [ByteArray.toList_eq, h0]; rfl
    have P := Lib.hid (show puS s.data.toList = none from if_pos h0)
    clear h0
    go_enter Tryz.func75, Tryz.ntmps75
    go_wp2
    go_ret2
    exact ⟨Below.refl _ _, .inr ⟨P.out, _, 2, .inr rfl, rfl⟩⟩
  · have e1 : s.toList.isEmpty = false := by rw [ByteArray.toList_eq]; cases hq : s.data.toList with | nil => exact absurd hq h0 | cons a r => rfl
    have P := Lib.hid (show puS s.data.toList = pu 0 s.data.toList from if_neg h0)
    have hcv := fun w => Go.Lib.run_convert_string_bytes (P := Tryz.prog) w 9 22 5 s Tryz.underlying9 Tryz.underlying22 Tryz.underlying5
    clear h0
    go_enter Tryz.func75, Tryz.ntmps75
    go_wp2
    have B0 := Lib.hid (show Below w.heap.size w (bytesWorld w 5 s) from Joins.below_bytesWorld _ _ _ _ (Nat.le_refl _))
    have hL : s.data.toList.length = s.size := by rw [Array.length_toList]; rfl
    go_loopw [12, 13, 101] (fun us n i wr => ∃ (k m : Nat), k ≤ s.size ∧ us = .bool false ∧ n = .int .u64 (m : Nat) ∧ m < 4294967296 ∧ i = .int .i64 (k : Nat) ∧ Hid (pu 0 s.data.toList = pu m (s.data.toList.drop k)) ∧ wr = bytesWorld w 5 s) (fun _ _ i _ => s.size - (Lib.intOf i).toNat)
    case atStart => exact ⟨0, 0, Nat.zero_le _, rfl, rfl, by omega, rfl, rfl, rfl⟩
    case round =>
      clear hcv
      obtain ⟨k, m, hk, rfl, rfl, hm, rfl, hP, rfl⟩ := hrel
      by_cases hlt : k < s.size
      · have hc := bytesWorld_cell w 5 s k hlt
        obtain ⟨b, hb⟩ : ∃ b, s.data.toList[k]? = some b := ⟨_, List.getElem?_eq_getElem (by rw [hL]; exact hlt)⟩
        rw [List.getD_eq_getElem?_getD, hb] at hc
        dsimp only [Option.getD_some] at hc
        have E := Lib.hid (show s.data.toList.drop k = b :: s.data.toList.drop (k + 1) by
          obtain ⟨h1, h2⟩ := List.getElem?_eq_some_iff.1 hb
          rw [List.drop_eq_getElem_cons h1, h2])
        have hb256 := b.toNat_lt
        have LC := low_cases b
        have LL := Lib.hid (fun w => strconv_lower b.toNat hb256 w)
        clear hb
        have hA : ((m : Nat) : Int) < 1152921504606846976 := by omega
        have hA2 : ¬ ((m : Nat) : Int) ≥ 1152921504606846976 := by omega
        generalize hAA : (1152921504606846976 : Int) = A at *
        clear hAA
        cases hd : hdg b with
        | some d =>
          have hd16 := hdg_lt hd
          have ST := Lib.hid (show pu m (s.data.toList.drop k) = if 16 * m + d < 4294967296 then pu (16 * m + d) (s.data.toList.drop (k + 1)) else none by rw [E.out, pu, hd]; rfl)
          rw [hd] at LC
          generalize b.toNat = c at *
          generalize lowN c = q at *
          clear hd e1 hL hb256
          have BW := Lib.hid (show w.heap.size ≤ w.heap.size from Nat.le_refl _)
          generalize bytesWorld w 5 s = W at *
          go_upto_block 5 with fail
          go_cut [12, 16, 101] (fun us v i wx => us = .bool false ∧ v = .int .u8 (d : Nat) ∧ i = .int .i64 (k : Nat) ∧ wx = W)
          case first =>
            rcases LC with ⟨l1, l2, hd⟩ | ⟨l1, l2, l3, l4, hd⟩ | ⟨l1, l2, l3, l4, hd⟩ | ⟨l1, l2, hd⟩ | ⟨l1, l2, l3, hd⟩ | ⟨l1, l2, l3, hd⟩ | ⟨l1, l2, hd⟩
            · injection hd with hd
              have x1 : (48 : Int) ≤ (c : Nat) := by omega
              have x2 : ((c : Nat) : Int) ≤ 57 := by omega
              have x3 : ¬ ((c : Nat) : Int) = 95 := by omega
              have y3 := Lib.hid (show ((c : Int) - 48) = ((d : Nat) : Int) by omega)
              clear hd
              go_wp2_with fail
              go_meet
              exact ⟨rfl, by rw [y3.out], rfl, rfl⟩
            · injection hd with hd
              have x3 : ¬ ((c : Nat) : Int) = 95 := by omega
              have x4 : (48 : Int) ≤ (c : Nat) := by omega
              have x5 : ¬ ((c : Nat) : Int) ≤ 57 := by omega
              have x1 : (97 : Int) ≤ (q : Nat) := by omega
              have x2 : ((q : Nat) : Int) ≤ 122 := by omega
              have x6 : ((q : Nat) : Int) ≤ 102 := by omega
              have y3 := Lib.hid (show ((q : Int) - 97 + 10) = ((d : Nat) : Int) by omega)
              clear hd
              go_wp2_with (go_at_call 91; refine (LL.out _).mono ?_; rintro _ _ ⟨rfl, rfl⟩)
              go_meet
              exact ⟨rfl, by rw [y3.out], rfl, rfl⟩
            all_goals cases hd
          case rest =>
            obtain ⟨rfl, rfl, rfl, rfl⟩ := hcut
            clear LC LL hk
            have y1 : (d : Int) < 16 := by omega
            have y2 : 0 ≤ (d : Int) := by omega
            have HM := Lib.hid hm
            have HA := Lib.hid hA
            have HA2 := Lib.hid hA2
            clear hm hA hA2
            go_upto_if 137 with fail
            have hA := HA.out
            have hA2 := HA2.out
            go_upto_if 141 with fail
            clear hA hA2
            have hm : (m : Int) < 4294967296 := by have := HM.out; omega
            have hm0 : (0 : Int) ≤ (m : Int) := by omega
            have z1 : ¬ ((m : Int) * 16 + (d : Int) < (m : Int) * 16) := by omega
            by_cases hr : 16 * m + d < 4294967296
            · have RR := Lib.hid hr
              have z2 : ¬ ((m : Int) * 16 + (d : Int) > 4294967295) := by omega
              have z4 := Lib.hid (show (m : Int) * 16 + (d : Int) = ((16 * m + d : Nat) : Int) by omega)
              clear hr
              go_upto_if 159 with fail
              clear hm hm0 z1 z2
              go_wp2
              rw [z4.out]
              go_roundw
              case rel => exact ⟨k + 1, 16 * m + d, by omega, rfl, rfl, RR.out, by go_num, hP.out.trans (ST.out.trans (if_pos RR.out)), trivial⟩
              case measure => simp [Lib.intOf]; omega
            · have RR := Lib.hid hr
              have z2 : (m : Int) * 16 + (d : Int) > 4294967295 := by omega
              clear hr
              go_upto_if 159 with fail
              clear hm hm0 z1 z2
              go_wp2
              go_ret2
              exact ⟨B0.out, .inr ⟨by rw [P.out, hP.out, ST.out, if_neg RR.out], 4294967295, 1, .inl rfl, rfl⟩⟩
        | none =>
          rw [hd] at LC
          rcases LC with ⟨l1, l2, hq⟩ | ⟨l1, l2, l3, l4, hq⟩ | ⟨l1, l2, l3, l4, hq⟩ | ⟨l1, l2, hq⟩ | ⟨l1, l2, l3, hq⟩ | ⟨l1, l2, l3, hq⟩ | ⟨l1, l2, hq⟩
          · cases hq
          · cases hq
          · have ST := Lib.hid (show pu m (s.data.toList.drop k) = none by rw [E.out, pu, hd]; rfl)
            generalize b.toNat = c at *
            generalize lowN c = q at *
            clear hd hq e1 hL hb256
            generalize bytesWorld w 5 s = W at *
            have x3 : ¬ ((c : Nat) : Int) = 95 := by omega
            have x4 : (48 : Int) ≤ (c : Nat) := by omega
            have x5 : ¬ ((c : Nat) : Int) ≤ 57 := by omega
            have x1 : (97 : Int) ≤ (q : Nat) := by omega
            have x2 : ((q : Nat) : Int) ≤ 122 := by omega
            go_upto_if 112 with fail
            go_upto_if 121 with (go_at_call 91; refine (LL.out _).mono ?_; rintro _ _ ⟨rfl, rfl⟩)
            go_upto_if 137 with (go_at_call 91; refine (LL.out _).mono ?_; rintro _ _ ⟨rfl, rfl⟩)
            have y1 : ((q : Int) - 97 + 10) ≥ 16 := by omega
            have y2 : 0 ≤ ((q : Int) - 97 + 10) := by omega
            go_wp2
            go_ret2
            exact ⟨B0.out, .inr ⟨by rw [P.out, hP.out, ST.out], 0, 2, .inr rfl, rfl⟩⟩
          · have ST := Lib.hid (show pu m (s.data.toList.drop k) = none by rw [E.out, pu, hd]; rfl)
            generalize b.toNat = c at *
            generalize lowN c = q at *
            clear hd hq e1 hL hb256
            generalize bytesWorld w 5 s = W at *
            have x3 : ¬ ((c : Nat) : Int) = 95 := by omega
            have x4 : ¬ (48 : Int) ≤ (c : Nat) := by omega
            have x1 : ¬ (97 : Int) ≤ (q : Nat) := by omega
            go_upto_if 112 with fail
            go_wp2_with (go_at_call 91; refine (LL.out _).mono ?_; rintro _ _ ⟨rfl, rfl⟩)
            go_ret2
            exact ⟨B0.out, .inr ⟨by rw [P.out, hP.out, ST.out], 0, 2, .inr rfl, rfl⟩⟩
          · have ST := Lib.hid (show pu m (s.data.toList.drop k) = none by rw [E.out, pu, hd]; rfl)
            generalize b.toNat = c at *
            generalize lowN c = q at *
            clear hd hq e1 hL hb256
            generalize bytesWorld w 5 s = W at *
            have x3 : ¬ ((c : Nat) : Int) = 95 := by omega
            have x4 : (48 : Int) ≤ (c : Nat) := by omega
            have x5 : ¬ ((c : Nat) : Int) ≤ 57 := by omega
            have x1 : ¬ (97 : Int) ≤ (q : Nat) := by omega
            go_upto_if 112 with fail
            go_wp2_with (go_at_call 91; refine (LL.out _).mono ?_; rintro _ _ ⟨rfl, rfl⟩)
            go_ret2
            exact ⟨B0.out, .inr ⟨by rw [P.out, hP.out, ST.out], 0, 2, .inr rfl, rfl⟩⟩
          · have ST := Lib.hid (show pu m (s.data.toList.drop k) = none by rw [E.out, pu, hd]; rfl)
            generalize b.toNat = c at *
            generalize lowN c = q at *
            clear hd hq e1 hL hb256
            generalize bytesWorld w 5 s = W at *
            have x3 : ¬ ((c : Nat) : Int) = 95 := by omega
            have x4 : (48 : Int) ≤ (c : Nat) := by omega
            have x5 : ¬ ((c : Nat) : Int) ≤ 57 := by omega
            have x1 : (97 : Int) ≤ (q : Nat) := by omega
            have x2 : ¬ ((q : Nat) : Int) ≤ 122 := by omega
            go_upto_if 112 with fail
            go_wp2_with (go_at_call 91; refine (LL.out _).mono ?_; rintro _ _ ⟨rfl, rfl⟩)
            go_ret2
            exact ⟨B0.out, .inr ⟨by rw [P.out, hP.out, ST.out], 0, 2, .inr rfl, rfl⟩⟩
          · have ST := Lib.hid (show pu m (s.data.toList.drop k) = none by rw [E.out, pu, hd]; rfl)
            generalize b.toNat = c at *
            generalize lowN c = q at *
            clear hd hq e1 hL hb256
            generalize bytesWorld w 5 s = W at *
            have x3 : (((c : Nat) : Int) == 95) = true := beq_iff_eq.2 (by omega)
            have x4 : (48 : Int) ≤ (c : Nat) := by omega
            have x5 : ¬ ((c : Nat) : Int) ≤ 57 := by omega
            have x1 : (97 : Int) ≤ (q : Nat) := by omega
            have x2 : ¬ ((q : Nat) : Int) ≤ 122 := by omega
            clear l1 l2
            go_upto_if 112 with fail
            go_wp2_with (go_at_call 91; refine (LL.out _).mono ?_; rintro _ _ ⟨rfl, rfl⟩)
            go_ret2
            exact ⟨B0.out, .inr ⟨by rw [P.out, hP.out, ST.out], 0, 2, .inr rfl, rfl⟩⟩
      · obtain rfl : k = s.size := by omega
        go_wp2
        go_ret2
        refine ⟨B0.out, .inl ⟨m, ?_, rfl⟩⟩
        rw [P.out, hP.out, List.drop_of_length_le (by rw [hL]; exact Nat.le_refl _)]
        rfl
end Go.Proofs.YtkemghecglbleaaGreatDoor
