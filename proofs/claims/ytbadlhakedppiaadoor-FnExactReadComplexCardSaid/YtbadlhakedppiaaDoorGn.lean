/- ReadNumbers on the reference's side. -/
import Derived.Test.YtbadlhakedppiaaDoorGr
namespace Go.Proofs.YtbadlhakedppiaaDoor
set_option maxRecDepth 100000
set_option linter.unusedVariables false
open Go.Lib Go.RowKit Go.Sort
def sdgP (c : Nat) (o : Option Nat) : Prop := (48 ≤ c ∧ c ≤ 57 ∧ o = some (c - 48)) ∨ (97 ≤ c ∧ c ≤ 102 ∧ o = some (c - 87)) ∨ (c < 48 ∧ o = none) ∨ (58 ≤ c ∧ c ≤ 96 ∧ o = none) ∨ (103 ≤ c ∧ o = none)
theorem sdg_cases (b : UInt8) : sdgP b.toNat (sdg b) := by
  unfold sdgP sdg
  by_cases h1 : 48 ≤ b.toNat ∧ b.toNat ≤ 57
  · rw [if_pos h1]; exact .inl ⟨h1.1, h1.2, rfl⟩
  · rw [if_neg h1]
    by_cases h2 : 97 ≤ b.toNat ∧ b.toNat ≤ 102
    · rw [if_pos h2]; exact .inr (.inl ⟨h2.1, h2.2, rfl⟩)
    · rw [if_neg h2]
      by_cases h3 : b.toNat < 48
      · exact .inr (.inr (.inl ⟨h3, rfl⟩))
      · by_cases h4 : b.toNat ≤ 96
        · exact .inr (.inr (.inr (.inl ⟨by omega, h4, rfl⟩)))
        · exact .inr (.inr (.inr (.inr ⟨by omega, rfl⟩)))
/-- digits read so far -/
def FoldAt (l : List UInt8) (k m : Nat) : Prop := foldS 0 l = foldS m (l.drop k) ∧ m < 16 ^ k
theorem FoldAt.zero (l : List UInt8) : FoldAt l 0 0 := ⟨rfl, by decide⟩
theorem FoldAt.next {p : ByteArray} {k m d : Nat} (h : FoldAt p.data.toList k m) (hk : k < p.size) (hd : sdg p[k] = some d) : FoldAt p.data.toList (k + 1) (16 * m + d) := by
  have hl : k < p.data.toList.length := by rw [size_len]; exact hk
  have e : p.data.toList.drop k = p[k] :: p.data.toList.drop (k + 1) := List.drop_eq_getElem_cons hl
  obtain ⟨h1, h2⟩ := h
  refine ⟨by rw [h1, e, foldS, hd]; rfl, ?_⟩
  have := (sdg_lt hd).1
  rw [Nat.pow_succ]; omega
theorem FoldAt.no {p : ByteArray} {k m : Nat} (h : FoldAt p.data.toList k m) (hk : k < p.size) (hd : sdg p[k] = none) : digS p.data.toList = none := by
  have hl : k < p.data.toList.length := by rw [size_len]; exact hk
  have e : p.data.toList.drop k = p[k] :: p.data.toList.drop (k + 1) := List.drop_eq_getElem_cons hl
  unfold digS
  split
  · rw [h.1, e, foldS, hd]; rfl
  · rfl
theorem FoldAt.full {p : ByteArray} {m : Nat} (h : FoldAt p.data.toList 8 m) (hp : p.size = 8) : m < 4294967296 ∧ digS p.data.toList = if canon m = m then some m else none := by
  refine ⟨by have := h.2; omega, ?_⟩
  unfold digS
  rw [if_pos (by rw [size_len]; exact hp), h.1, List.drop_of_length_le (by rw [size_len]; omega)]
  rfl
theorem FoldAt.lt {l : List UInt8} {k m : Nat} (h : FoldAt l k m) (hk : k < 8) : m < 268435456 := by
  refine Nat.lt_of_lt_of_le h.2 ?_
  exact Nat.pow_le_pow_right (n := 16) (by omega) (show k ≤ 7 by omega)
theorem digS_short {p : ByteArray} (h : ¬ p.size = 8) : digS p.data.toList = none := by
  unfold digS
  rw [if_neg (by rw [size_len]; exact h)]
/-- texts that lie in a block which is not this one -/
def Sx (w : World) (a : Option Addr) (ws : List ByteArray) (ob : Option Nat) : Prop := ws = [] ∨ ∃ b, a = some ⟨b, 0, none⟩ ∧ b < w.heap.size ∧ some b ≠ ob ∧ ∀ j x, ws[j]? = some x → w.cell? ⟨b, j, none⟩ = some (.string x)
theorem Sx.at {w : World} {a : Option Addr} {ws : List ByteArray} {ob : Option Nat} (h : Sx w a ws ob) {k : Nat} (hk : k < ws.length) : ∃ b, a = some ⟨b, 0, none⟩ ∧ w.cell? ⟨b, k, none⟩ = some (.string ws[k]) := by
  rcases h with h | ⟨b, rfl, h1, _, h2⟩
  · rw [h] at hk; cases hk
  · exact ⟨b, rfl, h2 k _ (List.getElem?_eq_getElem hk)⟩
theorem Sx.below {w w' : World} {a : Option Addr} {ws : List ByteArray} {ob : Option Nat} (h : Sx w a ws ob) (hb : Below w.heap.size w w') : Sx w' a ws ob := by
  rcases h with h | ⟨b, rfl, h1, h3, h2⟩
  · exact .inl h
  · exact .inr ⟨b, rfl, Nat.lt_of_lt_of_le h1 hb.size, h3, fun j x hx => (hb.cell (p := ⟨b, j, none⟩) h1).trans (h2 j x hx)⟩
theorem Sx.grown {w w' : World} {a : Option Addr} {ws : List ByteArray} {ob ob' : Option Nat} (h : Sx w a ws ob) (hg : w.grownBy w' ob) (ho : ob' = ob ∨ ob' = some w.heap.size) : Sx w' a ws ob' := by
  rcases h with h | ⟨b, rfl, h1, h3, h2⟩
  · exact .inl h
  · refine .inr ⟨b, rfl, Nat.lt_of_lt_of_le h1 hg.size, ?_, fun j x hx => (World.cell?_of_block (a := ⟨b, j, none⟩) (hg.block b h1 h3)).trans (h2 j x hx)⟩
    rcases ho with rfl | rfl
    · exact h3
    · intro q; injection q with q; omega
theorem Ows.sx {w : World} {base : Nat} {v : Value} {ws : List ByteArray} (h : Ows w base v ws) {g : Nat} (hg : g < base) : ∃ a cap, v = .slice a ws.length cap ∧ Sx w a ws (some g) := by
  rcases h.2 with ⟨rfl, h0⟩ | ⟨g2, c, cur, rfl, h1, h2, h3, h4, h5, h6⟩
  · have : ws = [] := List.eq_nil_of_length_eq_zero h0
    subst this
    exact ⟨none, 0, rfl, .inl rfl⟩
  · refine ⟨_, _, rfl, .inr ⟨g2, rfl, (Array.getElem?_eq_some_iff.1 h2).1, by intro q; injection q with q; omega, fun j x hx => ?_⟩⟩
    have hj := (List.getElem?_eq_some_iff.1 hx).1
    simp only [World.cell?, h2]
    have e : cur[j]? = (ws.map Value.string)[j]? := by
      rw [← h6, List.getElem?_take_of_lt (by omega)]
      simp
    simp [e, hx]
theorem run_pushN (w : World) (base : Nat) (v : Value) (xs : List Nat) (x : Nat) (h : Ow w base v xs) (hb : base ≤ w.heap.size) (hl : xs.length ≤ 1048576) (ty : TypeId) {a : Option Addr} {ws : List ByteArray} (hx : Sx w a ws v.ownBlock) :
    ∃ v' w', (Builtin.append_ #[22, 22] ty #[v, .slice (some ⟨w.heap.size, 0, none⟩) 1 1]).run Tryd.prog (w.alloc (.cells #[.float .f32 x] 38)) = .ok v' w' ∧ Ow w' base v' (xs ++ [x]) ∧ Below base w w' ∧ Sx w' a ws v'.ownBlock := by
  have h' : Ow (w.alloc (.cells #[.float .f32 x] 38)) base v xs := h.belowR ((Below.refl _ _).alloc (Nat.le_refl _) _)
  obtain ⟨i, hi, hz0, hz1, hz2⟩ := info_parts (P := Tryd.prog) (e := 38) (z := .float .f32 0) (size := 1) (bytes := 4) (by kernel_rfl)
  obtain ⟨v', w', hr, h2, h3, _, h5⟩ := run_append_own_at (P := Tryd.prog) (w.alloc (.cells #[.float .f32 x] 38)) base 22 ty 38 i (.float .f32 0) 1 4 Tryd.underlying22 hi hz0 hz1 hz2 rfl (by omega) v xs.length (xs.map (Value.float .f32)) h' ⟨w.heap.size, 0, none⟩ 1 1 [.float .f32 x] rfl
    (fun j u hj => by
      cases j with
      | zero => simp at hj; subst hj; simp [Addr.add]
      | succ j => simp at hj) (fun u hu => by simp at hu; subst hu; rfl) (by unfold maxLen; omega) (by omega) (by simp; omega)
  refine ⟨v', w', hr, ?_, ((Below.refl base w).alloc hb _).grown h3 (by simp; omega) (fun k hk => ?_), (hx.below ((Below.refl _ _).alloc (Nat.le_refl _) _)).grown h3 h5⟩
  · unfold Ow
    rw [List.length_append, List.map_append]
    exact h2
  · rcases h.2 with ⟨rfl, _⟩ | ⟨g, c, cur, rfl, h1, _⟩
    · cases hk
    · have : g = k := by injection hk
      omega
theorem bits_neq {n m : Nat} (h : ¬ n = m) : (((n : Int) != (m : Int)) = true) := by
  rw [bne_iff_ne]; omega
set_option maxHeartbeats 8000000 in
theorem spec_l01NRead (s : ByteArray) (hs : s.size ≤ 1048576) (w : World) :
    Calls Tryd.prog 24 #[.string s] w (RetRd (readN s).1 (readN s).2 w) := by
  by_cases h0 : s.data.toList = [110, 111, 110, 101]
  · have E := Lib.hid (show readN s = ([], true) by unfold readN partsD; rw [if_pos h0]; rfl)
    obtain ⟨e1, e2⟩ := none_yes h0
    have O1 := Lib.hid (OwR_empty w w.heap.size (Nat.le_refl _))
    clear h0
    go_enter Tryd.func24, Tryd.ntmps24
    go_wp2
    go_ret2
    exact ⟨.slice (some ⟨w.heap.size, 0, none⟩) 0 0, by rw [E.out]; rfl, by rw [E.out]; exact O1.out, (Below.refl _ _).alloc (Nat.le_refl _) _⟩
  · obtain ⟨e1, e2⟩ := none_no h0
    have hpl := cutB_len s
    have RN := Lib.hid (show readN s = if 256 < (cutB s).length then ([], false) else match digs (cutB s) with
      | some l => (l, true)
      | none => ([], false) by unfold readN partsD; rw [if_neg h0]; rfl)
    have C := Lib.hid (fun w => spec_l01Cut s hs w)
    have O0 := Lib.hid (OwR_empty w w.heap.size (Nat.le_refl _))
    generalize cutB s = ps at *
    generalize readN s = R at *
    clear h0
    go_enter Tryd.func24, Tryd.ntmps24
    go_wp2_with fail
    refine (C.out _).mono ?_
    rintro _ w1 ⟨v1, rfl, hO1, hB1⟩
    obtain ⟨a, cap, rfl, hS⟩ := hO1.sx (g := w.heap.size) (by simp)
    have S1 := Lib.hid hS
    have B1 := Lib.hid (((Below.refl _ _).alloc (Nat.le_refl w.heap.size) (.cells #[] 38)).trans (hB1.mono (by simp)))
    have O1 := Lib.hid (O0.out.belowR hB1)
    clear hS hB1 hO1 C O0
    by_cases hg : 256 < ps.length
    · have hg2 : (ps.length : Int) > 256 := by omega
      have E := Lib.hid (show R = ([], false) by rw [RN.out, if_pos hg])
      go_wp2
      go_ret2
      exact ⟨.slice none 0 0, by rw [E.out]; rfl, by rw [E.out]; exact OwR_nil _ _, B1.out⟩
    · have hg2 : ¬ (ps.length : Int) > 256 := by omega
      go_wp2
      go_loopw [4, 6, 7, 8, 9, 10, 11] (fun v i n q c d x wr => ∃ (k : Nat) (l : List Nat), k ≤ ps.length ∧ l.length = k ∧ i = .int .i64 (k : Nat) ∧ Hid (Ow wr w.heap.size v l) ∧ Hid (DigAt ps k l) ∧ Hid (Sx wr a ps v.ownBlock) ∧ Hid (Below w.heap.size w wr)) (fun _ i _ _ _ _ _ _ => ps.length - (Lib.intOf i).toNat)
      case atStart => exact ⟨0, [], Nat.zero_le _, rfl, rfl, O1.out, DigAt.zero ps, S1.out, B1.out⟩
      case round =>
        clear S1 B1 O1
        obtain ⟨k, l, hk, hlk, rfl, hO, hD, hS, hB⟩ := hrel
        by_cases hlt : k < ps.length
        · obtain ⟨b, rfl, hc⟩ := hS.out.at hlt
          have DN := Lib.hid (fun n h => hD.out.next hlt (n := n) h)
          have DF := Lib.hid (fun h => hD.out.no hlt h)
          have s1 : (0 : Int) ≤ (k : Nat) := by omega
          have s2 : (k : Int) < (ps.length : Nat) := by omega
          generalize ps[k] = p at *
          have stop := fun (h : digS p.data.toList = none) => (show R = ([], false) by rw [RN.out, if_neg hg, DF.out h])
          have ST := Lib.hid stop
          clear stop
          by_cases h8 : p.size = 8
          · have hp8 : (p.size : Int) = 8 := by omega
            have h8b : ((p.size : Int) != 8) = false := by rw [hp8]; rfl
            have H8 := Lib.hid h8
            clear hp8 h8
            go_wp2
            go_loop [7, 8, 9, 10] (fun n q c d => ∃ (j m : Nat), j ≤ 8 ∧ n = .int .i64 (m : Nat) ∧ q = .int .i64 (j : Nat) ∧ Hid (FoldAt p.data.toList j m)) (fun _ q _ _ => 8 - (Lib.intOf q).toNat)
            case atStart => exact ⟨0, 0, Nat.zero_le _, rfl, rfl, FoldAt.zero _⟩
            case round =>
              obtain ⟨j, m, hj, rfl, rfl, hF⟩ := hrel
              by_cases hj8 : j < 8
              · have hjp : j < p.size := by rw [H8.out]; exact hj8
                have hm := hF.out.lt hj8
                have BC := sdg_cases p[j]
                have FN := Lib.hid (fun d h => hF.out.next hjp (d := d) h)
                have FF := Lib.hid (fun h => hF.out.no hjp h)
                have t1 : (j : Int) < 8 := by omega
                have t2 : (j : Int) < p.size := by omega
                have t3 : (0 : Int) ≤ j := by omega
                rcases BC with ⟨l1, l2, hd⟩ | ⟨l1, l2, hd⟩ | ⟨l1, hd⟩ | ⟨l1, l2, hd⟩ | ⟨l1, hd⟩
                · have F2 := Lib.hid (FN.out _ hd)
                  clear hd FN FF
                  generalize hcc : p[j].toNat = c at *
                  have x1 : (c : Int) ≥ 48 := by omega
                  have x2 : (c : Int) ≤ 57 := by omega
                  have x3 : ¬ (c : Int) ≥ 97 := by omega
                  have x4 : ¬ ((c : Int) - 48 < 0) := by omega
                  have x5 := Lib.hid (show 16 * (m : Int) + ((c : Int) - 48) = ((16 * m + (c - 48) : Nat) : Int) by omega)
                  go_wp2
                  rw [x5.out]
                  go_round
                  case rel => exact ⟨j + 1, 16 * m + (c - 48), by omega, rfl, by go_num, F2.out⟩
                  case measure => simp [Lib.intOf]; omega
                · have F2 := Lib.hid (FN.out _ hd)
                  clear hd FN FF
                  generalize hcc : p[j].toNat = c at *
                  have x1 : (c : Int) ≥ 48 := by omega
                  have x2 : ¬ (c : Int) ≤ 57 := by omega
                  have x3 : (c : Int) ≥ 97 := by omega
                  have x6 : (c : Int) ≤ 102 := by omega
                  have x4 : ¬ ((c : Int) - 97 + 10 < 0) := by omega
                  have x5 := Lib.hid (show 16 * (m : Int) + ((c : Int) - 97 + 10) = ((16 * m + (c - 87) : Nat) : Int) by omega)
                  go_wp2
                  rw [x5.out]
                  go_round
                  case rel => exact ⟨j + 1, 16 * m + (c - 87), by omega, rfl, by go_num, F2.out⟩
                  case measure => simp [Lib.intOf]; omega
                · have E := Lib.hid (ST.out (FF.out hd))
                  clear hd FN FF
                  generalize hcc : p[j].toNat = c at *
                  have x1 : ¬ (c : Int) ≥ 48 := by omega
                  have x3 : ¬ (c : Int) ≥ 97 := by omega
                  go_wp2
                  go_ret2
                  exact ⟨.slice none 0 0, by rw [E.out]; rfl, by rw [E.out]; exact OwR_nil _ _, hB.out⟩
                · have E := Lib.hid (ST.out (FF.out hd))
                  clear hd FN FF
                  generalize hcc : p[j].toNat = c at *
                  have x1 : (c : Int) ≥ 48 := by omega
                  have x2 : ¬ (c : Int) ≤ 57 := by omega
                  have x3 : ¬ (c : Int) ≥ 97 := by omega
                  go_wp2
                  go_ret2
                  exact ⟨.slice none 0 0, by rw [E.out]; rfl, by rw [E.out]; exact OwR_nil _ _, hB.out⟩
                · have E := Lib.hid (ST.out (FF.out hd))
                  clear hd FN FF
                  generalize hcc : p[j].toNat = c at *
                  have x1 : (c : Int) ≥ 48 := by omega
                  have x2 : ¬ (c : Int) ≤ 57 := by omega
                  have x3 : (c : Int) ≥ 97 := by omega
                  have x6 : ¬ (c : Int) ≤ 102 := by omega
                  go_wp2
                  go_ret2
                  exact ⟨.slice none 0 0, by rw [E.out]; rfl, by rw [E.out]; exact OwR_nil _ _, hB.out⟩
              · obtain rfl : j = 8 := by omega
                obtain ⟨hm, hd⟩ := hF.out.full H8.out
                have CF := Lib.hid (fun w => spec_l01From (m : Int) (by omega) (by omega) w)
                have CB := Lib.hid (fun w => spec_l01Bits m hm w)
                rw [bitsC_canon hm] at CB
                by_cases hcn : canon m = m
                · rw [if_pos hcn] at hd
                  rw [hcn] at CB
                  have D2 := Lib.hid (DN.out m hd)
                  clear hd hcn DN DF hF ST
                  go_wp2_with fail
                  refine (CF.out _).mono ?_
                  rintro _ _ ⟨n1, rfl, rfl⟩
                  rw [Int.toNat_natCast]
                  go_wp2_with fail
                  refine (CB.out _).mono ?_
                  rintro _ _ ⟨n2, rfl, rfl⟩
                  have B2 := Lib.hid (hB.out.trans ((below_dN (w := wr) (n := n1 + n2)).mono hB.out.size))
                  obtain ⟨v2, w4, hrun, hO2, hG, hS2⟩ := run_pushN (wr.drewN (n1 + n2)) w.heap.size _ _ m hO.out hB.out.size (by omega) 22 hS.out
                  have H3 := Lib.hid (And.intro hO2 (And.intro (B2.out.trans hG) hS2))
                  clear hO2 hG hS2
                  go_wp2_with (at_builtin; refine Lib.wpList_append_run _ rfl (.tmp 74) (.tmp 76) 22 22 rfl _ _ rfl rfl _ _ hrun ?_)
                  go_roundw
                  case rel => exact ⟨k + 1, l ++ [m], by omega, by simp; omega, by go_num, H3.out.1, D2.out, H3.out.2.2, H3.out.2.1⟩
                  case measure => simp [Lib.intOf]; omega
                · rw [if_neg hcn] at hd
                  have E := Lib.hid (ST.out hd)
                  have hne := bits_neq hcn
                  generalize canon m = cm at *
                  clear hd hcn DN DF hF ST
                  go_wp2_with fail
                  refine (CF.out _).mono ?_
                  rintro _ _ ⟨n1, rfl, rfl⟩
                  rw [Int.toNat_natCast]
                  go_wp2_with fail
                  refine (CB.out _).mono ?_
                  rintro _ _ ⟨n2, rfl, rfl⟩
                  have B2 := Lib.hid (hB.out.trans ((below_dN (w := wr) (n := n1 + n2)).mono hB.out.size))
                  go_wp2
                  go_ret2
                  exact ⟨.slice none 0 0, by rw [E.out]; rfl, by rw [E.out]; exact OwR_nil _ _, B2.out⟩
          · have hp8 : ¬ (p.size : Int) = 8 := by omega
            have h8b : ((p.size : Int) != 8) = true := by rw [bne_iff_ne]; exact hp8
            have E := Lib.hid (ST.out (digS_short h8))
            clear h8
            go_wp2
            go_ret2
            exact ⟨.slice none 0 0, by rw [E.out]; rfl, by rw [E.out]; exact OwR_nil _ _, hB.out⟩
        · obtain rfl : k = ps.length := by omega
          have E := Lib.hid (show R = (l, true) by rw [RN.out, if_neg (by omega), hD.out.full])
          go_wp2
          go_ret2
          exact ⟨_, by rw [E.out]; rfl, by rw [E.out]; exact hO.out, hB.out⟩
end Go.Proofs.YtbadlhakedppiaaDoor
