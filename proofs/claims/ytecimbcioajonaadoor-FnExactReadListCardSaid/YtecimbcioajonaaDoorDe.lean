/- The program's cut, its lists of decimals read. -/
import Derived.Test.YtecimbcioajonaaDoorDd
import Derived.Lib.AppendZeros
namespace Go.Proofs.YtecimbcioajonaaDoor
set_option maxRecDepth 100000
set_option linter.unusedVariables false
open Go.Lib Go.RowKit Go.Sort

/-- a slice of texts that reads as these -/
def Sr (w : World) (a : Option Addr) (ws : List ByteArray) : Prop := ws = [] ∨ ∃ b, a = some ⟨b, 0, none⟩ ∧ b < w.heap.size ∧ ∀ j x, ws[j]? = some x → w.cell? ⟨b, j, none⟩ = some (.string x)
theorem Sr.below {w w' : World} {a : Option Addr} {ws : List ByteArray} (h : Sr w a ws) (hb : Below w.heap.size w w') : Sr w' a ws := by
  rcases h with h | ⟨b, rfl, h1, h2⟩
  · exact .inl h
  · exact .inr ⟨b, rfl, Nat.lt_of_lt_of_le h1 hb.size, fun j x hx => (hb.cell (p := ⟨b, j, none⟩) h1).trans (h2 j x hx)⟩
def partsD (s : ByteArray) : List ByteArray := if s.data.toList = [110, 111, 110, 101] then [] else cutB s
theorem none_yes {s : ByteArray} (h : s.data.toList = [110, 111, 110, 101]) : (s.toList == ([110, 111, 110, 101] : List UInt8)) = true ∧ (s.toList != ([110, 111, 110, 101] : List UInt8)) = false := by
  have e : s.toList = [110, 111, 110, 101] := by rw [ByteArray.toList_eq]; exact h
  exact ⟨beq_iff_eq.2 e, bne_eq_false_iff_eq.2 e⟩
theorem none_no {s : ByteArray} (h : ¬ s.data.toList = [110, 111, 110, 101]) : (s.toList == ([110, 111, 110, 101] : List UInt8)) = false ∧ (s.toList != ([110, 111, 110, 101] : List UInt8)) = true := by
  have e : ¬ s.toList = [110, 111, 110, 101] := by rw [ByteArray.toList_eq]; exact h
  exact ⟨beq_eq_false_iff_ne.2 e, bne_iff_ne.2 e⟩

set_option maxHeartbeats 1000000 in
theorem impl_partsOrNone (s : ByteArray) (hs : s.size ≤ 1048576) (w : World) (hw : Wd w) :
    Calls Tryd.prog 32 #[.string s] w (fun e w' => ∃ a, e = .returned (.slice a (partsD s).length (partsD s).length) ∧ Sr w' a (partsD s) ∧ Below w.heap.size w w') := by
  unfold partsD
  by_cases h0 : s.data.toList = [110, 111, 110, 101]
  · rw [if_pos h0]
    obtain ⟨e1, e2⟩ := none_yes h0
    clear h0
    go_enter Tryd.func32, Tryd.ntmps32
    go_wp2
    go_ret
    exact ⟨none, rfl, .inl rfl, Below.refl _ _⟩
  · rw [if_neg h0]
    obtain ⟨e1, e2⟩ := none_no h0
    obtain ⟨m, hm⟩ := hw.2.2
    have C := Tryd.strings_Split s ⟨#[44]⟩ m w (by omega) hm (by decide)
    rw [split_len, split_is] at C
    have CC := Lib.hid C
    clear C h0 hm hw
    go_enter Tryd.func32, Tryd.ntmps32
    go_wp2_with fail
    refine CC.out.mono ?_
    rintro _ w1 ⟨rfl, hw1⟩
    have H := Lib.hid hw1
    clear hw1
    go_wp2
    go_ret
    refine ⟨some ⟨w.heap.size, 0, none⟩, rfl, .inr ⟨w.heap.size, rfl, by rw [H.out]; simp, fun j x hx => ?_⟩, by rw [H.out]; exact (Below.refl _ _).alloc (Nat.le_refl _) _⟩
    rw [H.out, World.cell?_alloc_at _ _ _ _ (by simp)]
    simp [hx]

theorem cutF_size : ∀ (l pre : List UInt8), ∀ p ∈ cutF 44 pre l, p.length ≤ pre.length + l.length
  | [], pre, p, h => by simp only [cutF, List.mem_singleton] at h; subst h; simp
  | b :: l, pre, p, h => by
    rw [cutF] at h
    split at h
    · rcases List.mem_cons.1 h with rfl | h
      · omega
      · have := cutF_size l [] p h
        simp only [List.length_nil, List.length_cons] at this ⊢
        omega
    · have := cutF_size l (pre ++ [b]) p h
      simp only [List.length_append, List.length_cons, List.length_nil] at this ⊢
      omega
theorem partsD_size {s p : ByteArray} (h : p ∈ partsD s) : p.size ≤ s.size := by
  unfold partsD at h
  split at h
  · cases h
  · unfold cutB at h
    obtain ⟨l, hl, rfl⟩ := List.mem_map.1 h
    have := cutF_size s.data.toList [] l hl
    have e : (ofL l).size = l.length := by rw [← size_len]; rfl
    rw [size_len] at this
    simp at this
    omega

/-- a slice of the call's own that holds these integers -/
def Oi (w : World) (base : Nat) (v : Value) (xs : List Int) : Prop := w.ownsRow base 2 1 v xs.length (xs.map (Value.int .i64))
theorem Oi.below {w w' : World} {b : Nat} {v : Value} {xs : List Int} (h : Oi w b v xs) (hB : Below w.heap.size w w') : Oi w' b v xs := by
  refine ⟨h.1, ?_⟩
  rcases h.2 with q | ⟨g, c, cur, e, h1, h2, r⟩
  · exact .inl q
  · exact .inr ⟨g, c, cur, e, h1, by rw [hB.block g (Array.getElem?_eq_some_iff.1 h2).1]; exact h2, r⟩
theorem Oi.mono {w : World} {b b' : Nat} {v : Value} {xs : List Int} (h : Oi w b v xs) (hl : b' ≤ b) : Oi w b' v xs := by
  refine ⟨h.1, ?_⟩
  rcases h.2 with q | ⟨g, c, cur, e, h1, r⟩
  · exact .inl q
  · exact .inr ⟨g, c, cur, e, Nat.le_trans hl h1, r⟩
theorem Oi_nil (w : World) (b : Nat) : Oi w b (.slice none 0 0) [] := ⟨rfl, .inl ⟨rfl, rfl⟩⟩
theorem Oi_empty (w : World) (base : Nat) (h : base ≤ w.heap.size) : Oi (w.alloc (.cells #[] 2)) base (.slice (some ⟨w.heap.size, 0, none⟩) 0 0) [] :=
  ⟨rfl, .inr ⟨w.heap.size, 0, #[], rfl, h, heap_alloc_new w _, Nat.le_refl _, by simp, rfl, rfl⟩⟩
theorem run_pushI (w : World) (base : Nat) (v : Value) (xs : List Int) (x : Int) (h : Oi w base v xs) (hb : base ≤ w.heap.size) (hl : xs.length ≤ 1048577) (ty : TypeId) :
    ∃ v' w', (Builtin.append_ #[27, 27] ty #[v, .slice (some ⟨w.heap.size, 0, none⟩) 1 1]).run Tryd.prog (w.alloc (.cells #[.int .i64 x] 2)) = .ok v' w' ∧ Oi w' base v' (xs ++ [x]) ∧ Below base w w' := by
  obtain ⟨i, hi, hz0, hz1, hz2⟩ := info_parts (P := Tryd.prog) (e := 2) (z := .int .i64 0) (size := 1) (bytes := 8) (by kernel_rfl)
  have h' : Oi (w.alloc (.cells #[.int .i64 x] 2)) base v xs := h.below ((Below.refl _ _).alloc (Nat.le_refl _) _)
  obtain ⟨v', w', hr, h2, h3, _, _⟩ := run_append_own_at (P := Tryd.prog) (w.alloc (.cells #[.int .i64 x] 2)) base 27 ty 2 i (.int .i64 0) 1 8 Tryd.underlying27 hi hz0 hz1 hz2 rfl (by omega) v xs.length (xs.map (Value.int .i64)) h' ⟨w.heap.size, 0, none⟩ 1 1 [.int .i64 x] rfl
    (fun j u hj => by
      cases j with
      | zero => simp at hj; subst hj; simp [Addr.add]
      | succ j => simp at hj) (fun u hu => by simp at hu; subst hu; rfl) (by unfold maxLen; omega) (by omega) (by simp; omega)
  refine ⟨v', w', hr, ?_, (((Below.refl base w).alloc hb _)).grown h3 (by simp; omega) (fun k hk => ?_)⟩
  · unfold Oi
    rw [List.length_append, List.map_append]
    exact h2
  · rcases h.2 with ⟨rfl, _⟩ | ⟨g, c, cur, rfl, h1, _⟩
    · cases hk
    · have : g = k := by injection hk
      omega

theorem readD_parts (s : ByteArray) : readD s = if 64 < (partsD s).length then ([], false) else match listD (partsD s) with | some l => (l, true) | none => ([], false) := by
  unfold readD partsD
  by_cases h0 : s.data.toList = [110, 111, 110, 101]
  · rw [if_pos h0, if_pos h0]; rfl
  · rw [if_neg h0, if_neg h0]; rfl

set_option maxHeartbeats 4000000 in
theorem impl_ReadList (s : ByteArray) (hs : s.size ≤ 1048576) (w : World) (hw : Wd w) :
    Calls Tryd.prog 19 #[.string s] w (fun e w' => ∃ v, e = .returned (.tuple #[v, .bool (readD s).2]) ∧ Oi w' w.heap.size v (readD s).1 ∧ Below w.heap.size w w') := by
  have HW := Lib.hid hw
  have HR := Lib.hid (readD_parts s)
  have HZ := Lib.hid (fun p (h : p ∈ partsD s) => partsD_size h)
  have C := impl_partsOrNone s hs w hw
  generalize hws : partsD s = ws at C HR HZ
  have CC := Lib.hid C
  clear C hw hws
  go_enter Tryd.func19, Tryd.ntmps19
  go_wp2_with fail
  refine CC.out.mono ?_
  rintro _ w1 ⟨a, rfl, hS, hB⟩
  have HS := Lib.hid hS
  have HB1 := Lib.hid hB
  have HW1 := Lib.hid (HW.out.below hB)
  have O0 := Lib.hid (Oi_empty w1 w1.heap.size (Nat.le_refl _))
  clear hS hB CC HW
  go_wp2
  go_loopw [5, 7, 8, 9, 15] (fun v wd nn ok i wr => ∃ (k : Nat) (out : List Int), k ≤ ws.length ∧ i = .int .i64 (k : Nat) ∧ Hid (listD ws = (listD (ws.drop k)).map (out ++ ·)) ∧ Hid (0 < k → ws.length ≤ 64) ∧ Hid (out.length ≤ k) ∧ Hid (Oi wr w1.heap.size v out) ∧ Hid (Below w1.heap.size w1 wr)) (fun _ _ _ _ i _ => ws.length - (Lib.intOf i).toNat)
  case atStart => exact ⟨0, [], Nat.zero_le _, rfl, by show listD ws = (listD (ws.drop 0)).map ([] ++ ·); rw [List.drop_zero]; cases h : listD ws <;> rfl, fun q => absurd q (by omega), Nat.le_refl _, O0.out, (Below.refl _ _).alloc (Nat.le_refl _) _⟩
  case round =>
    clear O0
    obtain ⟨k, out, hk, rfl, hL, h64, hO, hI, hB⟩ := hrel
    by_cases hlt : k < ws.length
    · obtain ⟨x, hx⟩ : ∃ x, ws[k]? = some x := ⟨ws[k], List.getElem?_eq_getElem hlt⟩
      obtain ⟨b, rfl, _, hc⟩ : ∃ b, a = some ⟨b, 0, none⟩ ∧ b < wr.heap.size ∧ ∀ j x, ws[j]? = some x → wr.cell? ⟨b, j, none⟩ = some (.string x) := by
        rcases HS.out.below hB.out with q | q
        · rw [q] at hlt; simp at hlt
        · exact q
      have r1 := hc k x hx
      have hmem : x ∈ ws := List.mem_of_getElem? hx
      have hxs : x.size ≤ 1048576 := Nat.le_trans (HZ.out x hmem) hs
      have HX := Lib.hid (show listD (ws.drop k) = (valD x).bind fun n => (listD (ws.drop (k + 1))).map (n :: ·) by
        rw [List.drop_eq_getElem_cons hlt]
        have : ws[k] = x := by rw [List.getElem?_eq_getElem hlt] at hx; injection hx
        rw [this]; rfl)
      have s1 : (0 : Int) ≤ (k : Int) := by omega
      have s2 : (k : Int) < (ws.length : Int) := by omega
      clear hc hmem hx
      go_wp2_with fail
      refine (impl_ReadDecimal x hxs _ (HW1.out.below hB.out)).mono ?_
      rintro _ w2 ⟨rfl, hB2⟩
      have B2 := Lib.hid (hB.out.trans (hB2.mono hB.out.size))
      have I2 := Lib.hid (hI.out.below hB2)
      clear hB2 hB hI r1
      cases hv : valD x with
      | none =>
        have V := Lib.hid hv
        clear hv
        go_wp2
        go_ret2
        have e : readD s = ([], false) := by
          rw [HR.out, hL.out, HX.out, V.out]
          simp
        exact ⟨_, by rw [e]; rfl, by rw [e]; exact Oi_nil _ _, HB1.out.trans (B2.out.mono HB1.out.size)⟩
      | some n =>
        have V := Lib.hid hv
        clear hv
        by_cases hle : ws.length ≤ 64
        · have hle2 : ¬ (64 < (ws.length : Int)) := by omega
          obtain ⟨v2, w3, hrun, hO2, hG⟩ := run_pushI w2 w1.heap.size _ out n I2.out B2.out.size (by have := hO.out; omega) 27
          have H3 := Lib.hid (And.intro hO2 (B2.out.trans hG))
          clear hO2 hG
          go_wp2_with (at_builtin; refine Lib.wpList_append_run _ rfl (.tmp 31) (.tmp 33) 27 27 rfl _ _ rfl rfl _ _ hrun ?_)
          go_roundw
          case rel =>
            refine ⟨k + 1, out ++ [n], by omega, by go_num, ?_, fun _ => hle, by rw [List.length_append]; have := hO.out; simp; omega, H3.out.1, H3.out.2⟩
            have e3 : listD ws = ((listD (ws.drop (k + 1))).map (n :: ·)).map (out ++ ·) := by rw [hL.out, HX.out, V.out]; rfl
            show listD ws = (listD (ws.drop (k + 1))).map ((out ++ [n]) ++ ·)
            rw [e3]
            generalize listD (ws.drop (k + 1)) = oo
            cases oo with
            | none => rfl
            | some l => simp
          case measure => simp [Lib.intOf]; omega
        · have hle2 : 64 < (ws.length : Int) := by omega
          go_wp2
          go_ret2
          have e : readD s = ([], false) := by rw [HR.out, if_pos (by omega)]
          exact ⟨_, by rw [e]; rfl, by rw [e]; exact Oi_nil _ _, HB1.out.trans (B2.out.mono HB1.out.size)⟩
    · obtain rfl : k = ws.length := by omega
      have e : readD s = (out, true) := by
        have h1 := hL.out
        rw [List.drop_of_length_le (Nat.le_refl _)] at h1
        simp only [listD, Option.map_some, List.append_nil] at h1
        by_cases h0 : 0 < ws.length
        · rw [HR.out, if_neg (by have := h64.out h0; omega), h1]
        · rw [HR.out, if_neg (by omega), h1]
      have E := Lib.hid e
      clear e
      go_wp2
      go_ret2
      exact ⟨_, by rw [E.out]; rfl, by rw [E.out]; exact hI.out.mono HB1.out.size, HB1.out.trans (hB.out.mono HB1.out.size)⟩
end Go.Proofs.YtecimbcioajonaaDoor
