/- ReadComplex on both sides. -/
import Derived.Test.YtkemghecglbleaaGreatDoorGx
namespace Go.Proofs.YtkemghecglbleaaGreatDoor
set_option maxRecDepth 100000
set_option linter.unusedVariables false
open Go.Lib Go.RowKit Go.Sort
/-- the complex number of a word of 16 digits -/
def digC (p : ByteArray) : Option (Nat × Nat) := if p.size = 16 then (digS (p.extract 0 8).data.toList).bind fun a => (digS (p.extract 8 p.size).data.toList).map fun b => (a, b) else none
theorem digC_long {p : ByteArray} (h : ¬ p.size = 16) : digC p = none := if_neg h
theorem digC_some {p : ByteArray} (h : p.size = 16) {a b : Nat} (ha : digS (p.extract 0 8).data.toList = some a) (hb : digS (p.extract 8 p.size).data.toList = some b) : digC p = some (a, b) := by
  unfold digC
  rw [if_pos h, ha, hb]; rfl
theorem digC_no1 {p : ByteArray} (ha : digS (p.extract 0 8).data.toList = none) : digC p = none := by
  unfold digC
  split
  · rw [ha]; rfl
  · rfl
theorem digC_no2 {p : ByteArray} (hb : digS (p.extract 8 p.size).data.toList = none) : digC p = none := by
  unfold digC
  split
  · rw [hb]
    cases digS (p.extract 0 8).data.toList <;> rfl
  · rfl
def digz : List ByteArray → Option (List (Nat × Nat))
  | [] => some []
  | s :: r => (digC s).bind fun n => (digz r).map (n :: ·)
theorem digz_cons (s : ByteArray) (r : List ByteArray) : digz (s :: r) = (digC s).bind fun n => (digz r).map (n :: ·) := rfl
/-- what ReadComplex gives -/
def readC (s : ByteArray) : List (Nat × Nat) × Bool := if 256 < (partsD s).length then ([], false) else match digz (partsD s) with
  | some l => (l, true)
  | none => ([], false)
def ZAt (ps : List ByteArray) (k : Nat) (l : List (Nat × Nat)) : Prop := digz ps = (digz (ps.drop k)).map (l ++ ·)
theorem ZAt.zero (ps : List ByteArray) : ZAt ps 0 [] := by unfold ZAt; simp
theorem ZAt.next {ps : List ByteArray} {k : Nat} {l : List (Nat × Nat)} (h : ZAt ps k l) (hk : k < ps.length) {n : Nat × Nat} (hn : digC ps[k] = some n) : ZAt ps (k + 1) (l ++ [n]) := by
  unfold ZAt at h ⊢
  rw [h, List.drop_eq_getElem_cons hk, digz_cons, hn]
  simp only [Option.bind_some]
  cases digz (ps.drop (k + 1)) <;> simp
theorem ZAt.no {ps : List ByteArray} {k : Nat} {l : List (Nat × Nat)} (h : ZAt ps k l) (hk : k < ps.length) (hn : digC ps[k] = none) : digz ps = none := by
  unfold ZAt at h
  rw [h, List.drop_eq_getElem_cons hk, digz_cons, hn]; rfl
theorem ZAt.full {ps : List ByteArray} {l : List (Nat × Nat)} (h : ZAt ps ps.length l) : digz ps = some l := by
  unfold ZAt at h
  rw [h, List.drop_of_length_le (Nat.le_refl _)]
  simp [digz]
theorem digz_len : ∀ (ws : List ByteArray) (l : List (Nat × Nat)), digz ws = some l → l.length = ws.length
  | [], l, h => by
    have : some [] = some l := h
    injection this with this
    rw [← this]; rfl
  | x :: r, l, h => by
    rw [digz_cons] at h
    obtain ⟨n, _, h3⟩ := Option.bind_eq_some_iff.1 h
    obtain ⟨l', h4, rfl⟩ := Option.map_eq_some_iff.1 h3
    simp [digz_len r l' h4]
theorem readC_len (s : ByteArray) : (readC s).1.length ≤ 256 := by
  unfold readC
  split
  · simp
  · cases hl : digz (partsD s) with
    | none => simp
    | some l =>
      have := digz_len _ _ hl
      show l.length ≤ 256
      omega
theorem ext08 {p : ByteArray} (h : p.size = 16) : (p.extract 0 8).size = 8 := by rw [ByteArray.size_extract]; omega
theorem ext8n {p : ByteArray} (h : p.size = 16) : (p.extract 8 p.size).size = 8 := by rw [ByteArray.size_extract]; omega
def RetRz (ys : List (Nat × Nat)) (b : Bool) (w : World) (e : Ending) (w' : World) : Prop := ∃ v, e = .returned (.tuple #[v, .bool b]) ∧ Oz w' w.heap.size v ys ∧ Below w.heap.size w w'
def RetDo (o : Option Nat) (w : World) (e : Ending) (w' : World) : Prop :=
  Below w.heap.size w w' ∧ ∃ x : Nat, e = .returned (.tuple #[.float .f32 x, .bool o.isSome]) ∧ ∀ n, o = some n → x = n
set_option maxHeartbeats 4000000 in
theorem impl_ReadComplex (s : ByteArray) (hs : s.size ≤ 1048576) (w : World) (hw : Wd w) :
    Calls Tryz.prog 17 #[.string s] w (RetRz (readC s).1 (readC s).2 w) := by
  have HW := Lib.hid hw
  have hz := partsD_size s
  have hpl := partsD_len s
  have RN := Lib.hid (show readC s = if 256 < (partsD s).length then ([], false) else match digz (partsD s) with
    | some l => (l, true)
    | none => ([], false) from rfl)
  have C := Lib.hid (impl_partsOrNone s hs w hw)
  generalize partsD s = ps at *
  generalize readC s = R at *
  clear hw
  go_enter Tryz.func17, Tryz.ntmps17
  go_wp2_with fail
  refine C.out.mono ?_
  rintro _ w1 ⟨a, rfl, hS, hB⟩
  have S1 := Lib.hid hS
  have B1 := Lib.hid hB
  have O1 := Lib.hid (Oz_empty w1 w1.heap.size (Nat.le_refl _))
  clear hS hB C
  go_wp2
  go_loopw [5, 7, 8, 9, 10, 11, 17] (fun v wd x1 ok1 x2 ok2 i wr => ∃ (k : Nat) (l : List (Nat × Nat)), k ≤ ps.length ∧ l.length = k ∧ (k = 0 ∨ ps.length ≤ 256) ∧ i = .int .i64 (k : Nat) ∧ Hid (Oz wr w1.heap.size v l) ∧ Hid (ZAt ps k l) ∧ Hid (Below w1.heap.size w1 wr)) (fun _ _ _ _ _ _ i _ => ps.length - (Lib.intOf i).toNat)
  case atStart => exact ⟨0, [], Nat.zero_le _, rfl, .inl rfl, rfl, O1.out, ZAt.zero ps, (Below.refl _ _).alloc (Nat.le_refl _) _⟩
  case round =>
    clear O1
    obtain ⟨k, l, hk, hlk, hk2, rfl, hO, hD, hB⟩ := hrel
    by_cases hlt : k < ps.length
    · obtain ⟨b, rfl, hc⟩ := (S1.out.below hB.out).at hlt
      have hzk := hz ps[k] (List.getElem_mem hlt)
      have RC1 : ∀ w, Wd w → Calls Tryz.prog 38 #[.string (ps[k].extract 0 8)] w (RetDo (digS (ps[k].extract 0 8).data.toList) w) := fun w h => impl_readHex (ps[k].extract 0 8) (by rw [ByteArray.size_extract]; omega) w h
      have RC2 : ∀ w, Wd w → Calls Tryz.prog 38 #[.string (ps[k].extract 8 ps[k].size)] w (RetDo (digS (ps[k].extract 8 ps[k].size).data.toList) w) := fun w h => impl_readHex (ps[k].extract 8 ps[k].size) (by rw [ByteArray.size_extract]; omega) w h
      have DN := Lib.hid (fun n h => hD.out.next hlt (n := n) h)
      have DF := Lib.hid (fun h => hD.out.no hlt h)
      have B0 := Lib.hid (B1.out.trans (hB.out.mono B1.out.size))
      generalize ps[k] = p at *
      have s1 : (0 : Int) ≤ (k : Nat) := by omega
      have s2 : (k : Int) < (ps.length : Nat) := by omega
      have stop := Lib.hid (fun (h : digC p = none) => (show R = ([], false) by rw [RN.out, DF.out h]; split <;> rfl))
      by_cases h16 : p.size = 16
      · by_cases hg : ps.length ≤ 256
        · have h16b : ((p.size : Int) != 16) = false := by rw [h16]; rfl
          have hg2 : ¬ ((ps.length : Int) > 256) := by omega
          have z1 : (8 : Int) ≤ (p.size : Int) := by omega
          have z2 : 8 ≤ p.size := by omega
          have D1 := Lib.hid (fun a b ha hb => digC_some h16 (a := a) (b := b) ha hb)
          have D2 := Lib.hid (fun ha => stop.out (digC_no1 ha))
          have D3 := Lib.hid (fun hb => stop.out (digC_no2 hb))
          generalize digS (p.extract 0 8).data.toList = o1 at RC1 D1 D2
          generalize digS (p.extract 8 p.size).data.toList = o2 at RC2 D1 D3
          have RC1 := Lib.hid RC1
          have RC2 := Lib.hid RC2
          clear h16 stop
          go_wp2_with fail
          refine (RC1.out _ (HW.out.below B0.out)).mono ?_
          rintro _ w2 ⟨hB2, x, rfl, hx⟩
          have B2 := Lib.hid (hB.out.trans (hB2.mono hB.out.size))
          have B3 := Lib.hid (B0.out.trans (hB2.mono B0.out.size))
          have O2 := Lib.hid (hO.out.below hB2)
          clear hB2
          go_wp2_with fail
          refine (RC2.out _ (HW.out.below B3.out)).mono ?_
          rintro _ w3 ⟨hB3, y, rfl, hy⟩
          have B4 := Lib.hid (B2.out.trans (hB3.mono B2.out.size))
          have B5 := Lib.hid (B3.out.trans (hB3.mono B3.out.size))
          have O3 := Lib.hid (O2.out.below hB3)
          clear hB3 hc RC1 RC2
          cases o1 with
          | none =>
            have E := Lib.hid (D2.out rfl)
            clear hx hy D1 D2 D3
            generalize o2.isSome = bb
            go_wp2_with fail
            go_ret2
            exact ⟨.slice none 0 0, by rw [E.out]; rfl, by rw [E.out]; exact Oz_nil _ _, B5.out⟩
          | some n1 =>
            obtain rfl : x = n1 := hx n1 rfl
            cases o2 with
            | none =>
              have E := Lib.hid (D3.out rfl)
              clear hx hy D1 D2 D3
              go_wp2_with fail
              go_ret2
              exact ⟨.slice none 0 0, by rw [E.out]; rfl, by rw [E.out]; exact Oz_nil _ _, B5.out⟩
            | some n2 =>
              obtain rfl : y = n2 := hy n2 rfl
              have D4 := Lib.hid (DN.out (x, y) (D1.out x y rfl rfl))
              clear hx hy DN DF D1 D2 D3
              obtain ⟨v2, w4, hrun, hO2, hG, _⟩ := run_pushZ w3 w1.heap.size _ _ x y O3.out B4.out.size (by omega) 25 (a := none) (ws := []) (.inl rfl)
              have H3 := Lib.hid (And.intro hO2 (B4.out.trans hG))
              clear hO2 hG
              go_wp2_with (at_builtin; refine Lib.wpList_append_run _ rfl (.tmp 47) (.tmp 51) 25 25 rfl _ _ rfl rfl _ _ hrun ?_)
              go_roundw
              case rel => exact ⟨k + 1, l ++ [(x, y)], by omega, by simp; omega, .inr hg, by go_num, H3.out.1, D4.out, H3.out.2⟩
              case measure => simp [Lib.intOf]; omega
        · have h16b : ((p.size : Int) != 16) = false := by rw [h16]; rfl
          have hg2 : (ps.length : Int) > 256 := by omega
          have E := Lib.hid (show R = ([], false) by rw [RN.out, if_pos (by omega)])
          clear h16
          go_wp2_with fail
          go_ret2
          exact ⟨.slice none 0 0, by rw [E.out]; rfl, by rw [E.out]; exact Oz_nil _ _, B0.out⟩
      · have h16b : ((p.size : Int) != 16) = true := by rw [bne_iff_ne]; omega
        have E := Lib.hid (stop.out (digC_long h16))
        clear h16
        go_wp2_with fail
        go_ret2
        exact ⟨.slice none 0 0, by rw [E.out]; rfl, by rw [E.out]; exact Oz_nil _ _, B0.out⟩
    · obtain rfl : k = ps.length := by omega
      have E := Lib.hid (show R = (l, true) by
        rw [RN.out, if_neg (by omega), hD.out.full])
      go_wp2
      go_ret2
      exact ⟨_, by rw [E.out]; rfl, by rw [E.out]; exact hO.out.base B1.out.size, B1.out.trans (hB.out.mono B1.out.size)⟩
end Go.Proofs.YtkemghecglbleaaGreatDoor
