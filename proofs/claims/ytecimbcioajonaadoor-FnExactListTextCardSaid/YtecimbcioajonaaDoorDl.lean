/- The program's ListText; the statement walked. -/
import Derived.Test.YtecimbcioajonaaDoorDk
import Derived.Test.YtecimbcioajonaaDoorDt
import Derived.Test.YtecimbcioajonaaDoorDp
import Derived.Lib.AppendZeros
namespace Go.Proofs.YtecimbcioajonaaDoor
set_option maxRecDepth 100000
set_option linter.unusedVariables false
open Go.Lib Go.RowKit Go.Sort Go.Proofs.YtecimbcioajonaaDoorW.PrintWords Go.Proofs.YtecimbcioajonaaDoor.LT

/-- a slice of the call's own that holds these texts -/
def Ows (w : World) (base : Nat) (v : Value) (ws : List ByteArray) : Prop := w.ownsRow base 9 1 v ws.length (ws.map Value.string)
theorem Ows.below {w w' : World} {b : Nat} {v : Value} {ws : List ByteArray} (h : Ows w b v ws) (hB : Below w.heap.size w w') : Ows w' b v ws := by
  refine ⟨h.1, ?_⟩
  rcases h.2 with q | ⟨g, c, cur, e, h1, h2, r⟩
  · exact .inl q
  · exact .inr ⟨g, c, cur, e, h1, by rw [hB.block g (Array.getElem?_eq_some_iff.1 h2).1]; exact h2, r⟩
theorem Ows_empty (w : World) (base : Nat) (h : base ≤ w.heap.size) : Ows (w.alloc (.cells #[] 9)) base (.slice (some ⟨w.heap.size, 0, none⟩) 0 0) [] :=
  ⟨rfl, .inr ⟨w.heap.size, 0, #[], rfl, h, heap_alloc_new w _, Nat.le_refl _, by simp, rfl, rfl⟩⟩
theorem Ows.R {w : World} {b : Nat} {v : Value} {ws : List ByteArray} (h : Ows w b v ws) : Kd.string.R 9 w b (fun _ => True) v ws := Kd.R_of_own (enc := Value.string) h (fun _ _ => trivial)
theorem run_pushS (w : World) (base : Nat) (v : Value) (xs : List ByteArray) (x : ByteArray) (h : Ows w base v xs) (hb : base ≤ w.heap.size) (hl : xs.length ≤ 1048577) (ty : TypeId) :
    ∃ v' w', (Builtin.append_ #[43, 43] ty #[v, .slice (some ⟨w.heap.size, 0, none⟩) 1 1]).run Tryd.prog (w.alloc (.cells #[.string x] 9)) = .ok v' w' ∧ Ows w' base v' (xs ++ [x]) ∧ Below base w w' := by
  obtain ⟨i, hi, hz0, hz1, hz2⟩ := info_parts (P := Tryd.prog) (e := 9) (z := .string ⟨#[]⟩) (size := 1) (bytes := 16) (by kernel_rfl)
  have h' : Ows (w.alloc (.cells #[.string x] 9)) base v xs := h.below ((Below.refl _ _).alloc (Nat.le_refl _) _)
  obtain ⟨v', w', hr, h2, h3, _, _⟩ := run_append_own_at (P := Tryd.prog) (w.alloc (.cells #[.string x] 9)) base 43 ty 9 i (.string ⟨#[]⟩) 1 16 Tryd.underlying43 hi hz0 hz1 hz2 rfl (by omega) v xs.length (xs.map Value.string) h' ⟨w.heap.size, 0, none⟩ 1 1 [.string x] rfl
    (fun j u hj => by
      cases j with
      | zero => simp at hj; subst hj; simp [Addr.add]
      | succ j => simp at hj) (fun u hu => by simp at hu; subst hu; rfl) (by unfold maxLen; omega) (by omega) (by simp; omega)
  refine ⟨v', w', hr, ?_, (((Below.refl base w).alloc hb _)).grown h3 (by simp; omega) (fun k hk => ?_)⟩
  · unfold Ows
    rw [List.length_append, List.map_append]
    exact h2
  · rcases h.2 with ⟨rfl, _⟩ | ⟨g, c, cur, rfl, h1, _⟩
    · cases hk
    · have : g = k := by injection hk
      omega

def joinB (ws : List ByteArray) : ByteArray := if ws = [] then ofL [110, 111, 110, 101] else ofL (Lib.join (ws.map (·.data.toList)) [44])
set_option maxHeartbeats 1000000 in
theorem impl_listOrNone (v : Value) (ws : List ByteArray) (b : Nat) (hn : ws.length ≤ 1000) (hlen : (Lib.join (ws.map (·.data.toList)) [44]).length ≤ 140737488355328) (w : World) (h : Ows w b v ws) :
    Calls Tryd.prog 30 #[v] w (RetB (.string (joinB ws)) w) := by
  by_cases h0 : ws = []
  · subst h0
    obtain ⟨A, c, rfl⟩ := Kd.R_slice h.R
    go_enter Tryd.func30, Tryd.ntmps30
    go_wp2
    go_ret
    exact ⟨rfl, Below.refl _ _⟩
  · have hp := List.length_pos_iff.2 h0
    have hj : joinB ws = ofL (Lib.join (ws.map (·.data.toList)) [44]) := if_neg h0
    rcases h.2 with ⟨rfl, hh⟩ | ⟨g, c, cur, rfl, h1, h2, h3, r⟩
    · exact absurd (by simpa using hh) h0
    · have hlt := (Array.getElem?_eq_some_iff.1 h2).1
      have C := Tryd.strings_Join g 0 c ws ⟨#[44]⟩ w (fun j x hx => by
        have hjl : j < ws.length := (List.getElem?_eq_some_iff.1 hx).1
        have := (Kd.R_cell (d := ByteArray.empty) (enc := Value.string) h.R (j : Int) (by omega) (by omega)).1
        rw [show rdOf ByteArray.empty ws (j : Int) = x by unfold rdOf; simp [hx]] at this
        simpa using this) hlt (by omega) h3 hlen
      have CC := Lib.hid C
      have J := Lib.hid hj
      have n0 : ¬ (ws.length : Int) = 0 := by omega
      clear C hj h h0
      go_enter Tryd.func30, Tryd.ntmps30
      go_wp2_with (go_at_call 45; refine CC.out.mono ?_; rintro _ w1 ⟨rfl, hB⟩; have B1 := Lib.hid hB; clear hB)
      go_ret
      exact ⟨by rw [J.out]; rfl, B1.out⟩

def wordsL (l : List Int) : List ByteArray := l.map fun n => ofL (itoa n)
theorem words_data (l : List Int) : (wordsL l).map (·.data.toList) = l.map itoa := by unfold wordsL; rw [List.map_map]; rfl
theorem join_words (l : List Int) : joinB (wordsL l) = ofL (textL l) := by
  unfold joinB textL
  rw [words_data]
  cases l with
  | nil => rfl
  | cons a r => rw [if_neg (by simp [wordsL]), if_neg (by simp)]
theorem textD_no {l : List Int} (h : ¬ (okL l = true ∧ l.length ≤ 64)) : textD l = (ofL [], false) := by
  unfold textD
  rw [if_neg (fun q => h (by simpa using q))]
theorem textD_yes {l : List Int} (h : okL l = true ∧ l.length ≤ 64) : textD l = (ofL (textL l), true) := by
  unfold textD
  rw [if_pos (by simpa using h)]
theorem okL_mem {l : List Int} {x : Int} {k : Nat} (hx : l[k]? = some x) (h : okL l = true) : okV x := by
  unfold okL at h
  exact of_decide_eq_true (List.all_eq_true.1 h x (List.mem_of_getElem? hx))

set_option maxHeartbeats 4000000 in
theorem impl_ListText (A : Option Addr) (c : Nat) (l : List Int) (hl : l.length ≤ 1048576) (w : World) (hr : CI w A l) (hc : l.length ≤ c) (ht : Tb w) :
    Calls Tryd.prog 16 #[.slice A l.length c] w (RetB (.tuple #[.string (textD l).1, .bool (textD l).2]) w) := by
  have HT := Lib.hid ht
  have HC := Lib.hid hr
  have O0 := Lib.hid (Ows_empty w w.heap.size (Nat.le_refl _))
  clear ht hr
  go_enter Tryd.func16, Tryd.ntmps16
  go_wp2
  go_loopw [4, 6, 10] (fun v n i wr => ∃ (k : Nat), k ≤ l.length ∧ i = .int .i64 (k : Nat) ∧ Hid (okL (l.take k) = true) ∧ Hid (0 < k → l.length ≤ 64) ∧ Hid (Ows wr w.heap.size v (wordsL (l.take k))) ∧ Hid (Below w.heap.size w wr)) (fun _ _ i _ => l.length - (Lib.intOf i).toNat)
  case atStart => exact ⟨0, Nat.zero_le _, rfl, rfl, fun q => absurd q (by omega), O0.out, (Below.refl _ _).alloc (Nat.le_refl _) _⟩
  case round =>
    clear O0
    obtain ⟨k, hk, rfl, hOk, h64, hO, hB⟩ := hrel
    by_cases hlt : k < l.length
    · obtain ⟨x, hx⟩ : ∃ x, l[k]? = some x := ⟨l[k], List.getElem?_eq_getElem hlt⟩
      obtain ⟨ad, rfl, hcell⟩ := Kd.at_int (Kd.C_below HC.out hB.out) (k : Int) (by omega) (by omega)
      rw [show rd l (k : Int) = x by unfold rd; simp [hx], Int.toNat_natCast] at hcell
      have s1 : (0 : Int) ≤ (k : Int) := by omega
      have s2 : (k : Int) < (l.length : Int) := by omega
      have E1 := Lib.hid (show l.take (k + 1) = l.take k ++ [x] by rw [List.take_add_one, hx]; rfl)
      have E2 := Lib.hid (fun q : okL l = true => okL_mem hx q)
      clear hx
      by_cases hv : okV x
      · have D := Lib.hid (show decide (-1000000000000000 ≤ x ∧ x ≤ 1000000000000000) = true from decide_eq_true hv)
        by_cases hle : l.length ≤ 64
        · have hle2 : ¬ (64 < (l.length : Int)) := by omega
          go_wp2_with (go_at_call 26; refine (impl_isValue x _).mono ?_; rw [D.out]; rintro _ w2 ⟨rfl, hB2⟩; have B2 := Lib.hid (hB.out.trans (hB2.mono hB.out.size)); have O2 := Lib.hid (hO.out.below hB2); clear hB2)
          refine (impl_Decimal x (by unfold okV at hv; omega) (by unfold okV at hv; omega) _ (HT.out.below B2.out)).mono ?_
          rintro _ w3 ⟨rfl, hB3⟩
          have B3 := Lib.hid (B2.out.trans (hB3.mono B2.out.size))
          have O3 := Lib.hid (O2.out.below hB3)
          clear hB3
          obtain ⟨v2, w4, hrun, hO2, hG⟩ := run_pushS w3 w.heap.size _ _ (ofL (itoa x)) O3.out B3.out.size (by simp only [wordsL, List.length_map, List.length_take]; omega) 43
          have H3 := Lib.hid (And.intro hO2 (B3.out.trans hG))
          clear hO2 hG
          go_wp2_with (at_builtin; refine Lib.wpList_append_run _ rfl (.tmp 22) (.tmp 25) 43 43 rfl _ _ rfl rfl _ _ hrun ?_)
          go_roundw
          case rel =>
            refine ⟨k + 1, by omega, by go_num, ?_, fun _ => hle, ?_, H3.out.2⟩
            · show okL (l.take (k + 1)) = true
              rw [E1.out]
              unfold okL
              rw [List.all_append]
              rw [show (l.take k).all (fun n => decide (okV n)) = true from hOk.out]
              simp [hv]
            · show Ows _ _ _ (wordsL (l.take (k + 1)))
              rw [E1.out, show wordsL (l.take k ++ [x]) = wordsL (l.take k) ++ [ofL (itoa x)] by unfold wordsL; simp]
              exact H3.out.1
          case measure => simp [Lib.intOf]; omega
        · have hle2 : 64 < (l.length : Int) := by omega
          have T := Lib.hid (textD_no (l := l) (fun q => hle q.2))
          go_wp2_with (go_at_call 26; refine (impl_isValue x _).mono ?_; rw [D.out]; rintro _ w2 ⟨rfl, hB2⟩; have B2 := Lib.hid (hB.out.trans (hB2.mono hB.out.size)); clear hB2)
          go_ret2
          exact ⟨by rw [T.out]; rfl, B2.out⟩
      · have D := Lib.hid (show decide (-1000000000000000 ≤ x ∧ x ≤ 1000000000000000) = false from decide_eq_false hv)
        have T := Lib.hid (textD_no (l := l) (fun q => hv (E2.out q.1)))
        go_wp2_with (go_at_call 26; refine (impl_isValue x _).mono ?_; rw [D.out]; rintro _ w2 ⟨rfl, hB2⟩; have B2 := Lib.hid (hB.out.trans (hB2.mono hB.out.size)); clear hB2)
        go_ret2
        exact ⟨by rw [T.out]; rfl, B2.out⟩
    · obtain rfl : k = l.length := by omega
      have hok : okL l = true := by have := hOk.out; rwa [List.take_of_length_le (Nat.le_refl _)] at this
      have hle : l.length ≤ 64 := by
        by_cases h0 : 0 < l.length
        · exact h64.out h0
        · omega
      have T := Lib.hid (textD_yes ⟨hok, hle⟩)
      have O2 := Lib.hid (show Ows _ _ _ (wordsL l) by have := hO.out; rwa [List.take_of_length_le (Nat.le_refl _)] at this)
      have hj : (Lib.join ((wordsL l).map (·.data.toList)) [44]).length ≤ 140737488355328 := by
        rw [words_data]
        have := join_len (l.map itoa) (fun y hy => by
          obtain ⟨n, hn, rfl⟩ := List.mem_map.1 hy
          have hv : okV n := of_decide_eq_true (List.all_eq_true.1 hok n hn)
          unfold okV at hv
          exact itoa_len20 (by omega) (by omega))
        rw [List.length_map] at this
        omega
      have J := Lib.hid hj
      clear hO hok hj
      go_wp2_with (go_at_call 30; refine (impl_listOrNone _ (wordsL l) w.heap.size (by simp only [wordsL, List.length_map]; omega) J.out _ O2.out).mono ?_; rintro _ w2 ⟨rfl, hB2⟩; have B2 := Lib.hid (hB.out.trans (hB2.mono hB.out.size)); clear hB2)
      go_ret2
      exact ⟨by rw [T.out, join_words]; rfl, B2.out⟩

theorem spec_ListText' (A : Option Addr) (c : Nat) (l : List Int) (hl : l.length ≤ 1048576) (w : World) (hr : CI w A l) (hc : l.length ≤ c) :
    Calls Tryd.prog 14 #[.slice A l.length c] w (RetB (.tuple #[.string (textD l).1, .bool (textD l).2]) w) := by
  obtain ⟨k, hk⟩ := (LT.ev_ListText l hl).rounds
  exact (Go.Proofs.YtecimbcioajonaaDoor.PListText.spec_ListText.calls k A c l _ _ w hr hc hk).mono fun e w' ⟨h1, h2⟩ => ⟨h1, h2⟩

set_option maxHeartbeats 4000000 in
theorem law_ListText (A : Option Addr) (c : Nat) (l : List Int) (w : World) (hr : CI w A l) (hc : l.length ≤ c) (ht : Tb w) :
    Calls Tryd.prog 6 #[.slice A l.length c] w (LawTrue w) := by
  have HT := Lib.hid ht
  have HC := Lib.hid hr
  clear ht hr
  by_cases hl : l.length ≤ 1048576
  · have hl2 : ¬ (1048576 < (l.length : Int)) := by omega
    generalize hv : textD l = o
    obtain ⟨ow, ob⟩ := o
    have V := Lib.hid hv
    clear hv
    go_enter Tryd.func6, Tryd.ntmps6
    go_wp2_with fail
    refine (laws_toInt64S' A c l hl _ HC.out hc).mono ?_
    rintro _ w1 ⟨A1, c1, rfl, C1, hc1, hB1⟩
    have B1 := Lib.hid hB1
    have X1 := Lib.hid C1
    clear hB1 C1
    go_wp2_with (go_at_call 14; refine (spec_ListText' A1 c1 l hl _ X1.out hc1).mono ?_; rw [V.out]; rintro _ w2 ⟨rfl, hB⟩; have B2 := Lib.hid (B1.out.trans (hB.mono B1.out.size)); clear hB)
    refine (laws_toInt64S' A c l hl _ (Kd.C_below HC.out B2.out) hc).mono ?_
    rintro _ w3 ⟨A3, c3, rfl, C3, hc3, hB3⟩
    have B3 := Lib.hid (B2.out.trans (hB3.mono B2.out.size))
    have X3 := Lib.hid C3
    clear hB3 C3
    go_wp2_with (go_at_call 16; refine (impl_ListText A3 c3 l hl _ X3.out hc3 (HT.out.below B3.out)).mono ?_; rw [V.out]; rintro _ w4 ⟨rfl, hB⟩; have B4 := Lib.hid (B3.out.trans (hB.mono B3.out.size)); have X4 := Lib.hid (Kd.C_below X3.out hB); clear hB)
    refine (laws_toInt64S' A c l hl _ (Kd.C_below HC.out B4.out) hc).mono ?_
    rintro _ w5 ⟨A5, c5, rfl, C5, hc5, hB5⟩
    have B5 := Lib.hid (B4.out.trans (hB5.mono B4.out.size))
    have X5 := Lib.hid C5
    have X35 := Lib.hid (Kd.C_below X4.out hB5)
    clear hB5 C5
    go_wp2_with (go_at_call 17; refine (laws_eqInt64S' A3 c3 A5 c5 l hl _ X35.out hc3 X5.out hc5).mono ?_; rintro _ w6 ⟨rfl, hB⟩; have B6 := Lib.hid (B5.out.trans (hB.mono B5.out.size)); clear hB)
    all_goals go_ret
    all_goals first | exact ⟨rfl, B6.out⟩ | (exfalso; simp_all)
  · have hl2 : 1048576 < (l.length : Int) := by omega
    go_enter Tryd.func6, Tryd.ntmps6
    go_wp2
    go_ret
    exact ⟨rfl, Below.refl _ _⟩
end Go.Proofs.YtecimbcioajonaaDoor
