/- FnNumbers: texts are read back, plainly; small contracts. -/
import Derived.Test.YticeapacffgikaaGreatDoorSe
import Derived.Test.YticeapacffgikaaGreatDoorGe
import Derived.Test.YticeapacffgikaaGreatDoorGv
import Derived.Test.YticeapacffgikaaGreatDoorRt
import Derived.Test.YticeapacffgikaaGreatDoorAn
namespace Go.Proofs.YticeapacffgikaaGreatDoor
set_option maxRecDepth 100000
set_option linter.unusedVariables false
open Go.Lib Go.RowKit
/-! texts cut and read back, plainly -/
theorem cutF_skip (m : UInt8) : ∀ (l pre rest : List UInt8), m ∉ l → cutF m pre (l ++ rest) = cutF m (pre ++ l) rest
  | [], pre, rest, _ => by simp
  | c :: l, pre, rest, h => by
    have hc : ¬ c = m := fun q => h (by rw [q]; exact List.mem_cons_self ..)
    have hl : m ∉ l := fun q => h (List.mem_cons_of_mem _ q)
    rw [List.cons_append, cutF, if_neg hc, cutF_skip m l _ rest hl]
    simp
theorem cut_join : ∀ (ls : List (List UInt8)), ls ≠ [] → (∀ l ∈ ls, (44 : UInt8) ∉ l) → cutF 44 [] (Lib.join ls [44]) = ls
  | [], h, _ => absurd rfl h
  | [a], _, h => by
    have h1 := h a (by simp)
    have e : Lib.join [a] [44] = a ++ [] := by simp [Lib.join]
    rw [e, cutF_skip 44 a [] [] h1]
    simp [cutF]
  | a :: b :: r, _, h => by
    have h1 := h a (by simp)
    rw [join_cons2, cutF_skip 44 a [] _ h1, cutF, if_pos rfl, cut_join (b :: r) (by simp) (fun l hl => h l (List.mem_cons_of_mem _ hl))]
    simp
theorem hexD_ne {d : Nat} (h : d < 16) : hexD d ≠ 44 ∧ hexD d ≠ 110 := by
  have e := hexD_toNat h
  constructor
  · intro q
    rw [q] at e
    have : (44 : UInt8).toNat = 44 := rfl
    split at e <;> omega
  · intro q
    rw [q] at e
    have : (110 : UInt8).toNat = 110 := rfl
    split at e <;> omega
theorem hexK_mem : ∀ (k n : Nat) (c : UInt8), c ∈ hexK k n → c ≠ 44 ∧ c ≠ 110
  | 0, n, c, h => by cases h
  | k + 1, n, c, h => by
    rw [hexK] at h
    rcases List.mem_append.1 h with q | q
    · exact hexK_mem k _ c q
    · rw [List.mem_singleton.1 q]; exact hexD_ne (Nat.mod_lt _ (by omega))
theorem canon_bits (x : Nat) (hx : x < 4294967296) : bitsC (cn .f32 x) < 4294967296 ∧ canon (bitsC (cn .f32 x)) = bitsC (cn .f32 x) ∧ cn .f32 (bitsC (cn .f32 x)) = cn .f32 x := by
  rw [bitsC_canon hx]
  refine ⟨canon_lt hx, canon_idem x, ?_⟩
  rw [← bitsC_canon hx]
  rcases cn_cases .f32 x with c | c
  · rw [c]; decide
  · rw [c]; exact c
theorem digS_hex (n : Nat) (h : n < 4294967296) (hc : canon n = n) : digS (hexK 8 n) = some n := by
  unfold digS
  rw [if_pos (hexK_len 8 n), foldS_hexK, Nat.mod_eq_of_lt (by omega)]
  simp [hc]
def backs (xs : List Nat) : List Nat := xs.map fun x => bitsC (cn .f32 x)
theorem digs_hex : ∀ xs : List Nat, allLt xs → digs ((hexs xs).map ofB) = some (backs xs)
  | [], _ => rfl
  | x :: r, h => by
    have hx := canon_bits x (h x (by simp))
    show digs (ofB (hexK 8 (bitsC (cn .f32 x))) :: (hexs r).map ofB) = _
    rw [digs_cons, show (ofB (hexK 8 (bitsC (cn .f32 x)))).data.toList = hexK 8 (bitsC (cn .f32 x)) from rfl, digS_hex _ hx.1 hx.2.1, digs_hex r (fun y hy => h y (List.mem_cons_of_mem _ hy))]
    rfl
theorem parts_text (xs : List Nat) : partsD (textB xs) = (hexs xs).map ofB := by
  unfold textB
  by_cases h0 : xs = []
  · subst h0; rfl
  · rw [if_neg h0]
    have hne : hexs xs ≠ [] := by simpa [hexs] using h0
    unfold partsD
    have hd : (ofB (Lib.join (hexs xs) [44])).data.toList = Lib.join (hexs xs) [44] := rfl
    rw [hd, if_neg]
    · unfold cutB
      rw [hd, cut_join _ hne (fun l hl => by
        obtain ⟨x, _, rfl⟩ := List.mem_map.1 hl
        exact fun q => (hexK_mem 8 _ _ q).1 rfl)]
    · intro q
      obtain ⟨x, r, e⟩ : ∃ x r, xs = x :: r := by
        cases xs with
        | nil => exact absurd rfl h0
        | cons x r => exact ⟨x, r, rfl⟩
      subst e
      have hl : (hexK 8 (bitsC (cn .f32 x))).length = 8 := hexK_len 8 _
      have : ∃ t, Lib.join (hexs (x :: r)) [44] = hexK 8 (bitsC (cn .f32 x)) ++ t := by
        cases r with
        | nil => exact ⟨[], by simp [hexs, Lib.join]⟩
        | cons y r' => exact ⟨_, join_cons2 _ _ _⟩
      obtain ⟨t, ht⟩ := this
      rw [ht] at q
      cases hh : hexK 8 (bitsC (cn .f32 x)) with
      | nil => rw [hh] at hl; cases hl
      | cons c l =>
        rw [hh, List.cons_append] at q
        injection q with q1 _
        have := (hexK_mem 8 _ c (by rw [hh]; simp)).2
        exact this q1
theorem read_text (xs : List Nat) (hl : xs.length ≤ 256) (h : allLt xs) : readN (textB xs) = (backs xs, true) := by
  unfold readN
  rw [parts_text, if_neg (by simp [hexs]; omega), digs_hex xs h]
theorem text_size (xs : List Nat) (hl : xs.length ≤ 256) : (textB xs).size ≤ 1048576 := by
  by_cases h0 : xs = []
  · subst h0; decide
  · have := hexs_size xs h0
    unfold textB
    rw [if_neg h0]
    omega
/-! subnormals -/
theorem flush_law (x : Nat) (hx : x < 4294967296) : isSub (flushC (cn .f32 x)) = false ∧ decide (cn .f32 x = flushC (cn .f32 x)) = !isSub (cn .f32 x) := by
  rcases cn_cases .f32 x with c | c
  · rw [c]; exact ⟨rfl, rfl⟩
  · rw [c]
    by_cases h : x % 2147483648 < 8388608
    · have hf : flushC (some x) = some (if 2147483648 ≤ x then 2147483648 else 0) := by simp only [flushC]; rw [if_pos h]
      rw [hf]
      refine ⟨by split <;> decide, ?_⟩
      show decide _ = !decide (0 < x % 2147483648 ∧ x % 2147483648 < 8388608)
      by_cases z : x % 2147483648 = 0
      · rw [decide_eq_true (p := some x = _) (by congr 1; split <;> omega), decide_eq_false (p := 0 < x % 2147483648 ∧ _) (by omega)]; rfl
      · rw [decide_eq_false (p := some x = _) (by intro q; injection q with q; split at q <;> omega), decide_eq_true (p := 0 < x % 2147483648 ∧ _) (by omega)]; rfl
    · have hf : flushC (some x) = some x := by simp only [flushC]; rw [if_neg h]
      rw [hf]
      refine ⟨decide_eq_false (by omega), ?_⟩
      show decide _ = !decide (0 < x % 2147483648 ∧ x % 2147483648 < 8388608)
      rw [decide_eq_true rfl, decide_eq_false (p := 0 < x % 2147483648 ∧ _) (by omega)]; rfl
theorem impl_angles (y x : Nat) (hy : y < 4294967296) (hx : x < 4294967296) : ∃ c, ∀ w, Calls Tryz.prog 16 #[.float .f32 y, .float .f32 x] w (RetFw c w) := by
  have fin_of : ∀ z, z < 4294967296 → z % 2147483648 < 2139095040 → cn .f32 z = some z ∧ isFin (cn .f32 z) = true := by
    intro z hz h
    have c : cn .f32 z = some z := cn_of_le _ _ (by rw [f32_sign, f32_inf]; omega)
    exact ⟨c, by rw [c, isFin_some hz c]; simpa using h⟩
  have bad_of : ∀ z, z < 4294967296 → ¬ z % 2147483648 < 2139095040 → isFin (cn .f32 z) = false := by
    intro z hz h
    rcases cn_cases .f32 z with c | c
    · rw [c]; rfl
    · rw [c, isFin_some hz c]; simp; omega
  by_cases fy : y % 2147483648 < 2139095040
  · by_cases fx : x % 2147483648 < 2139095040
    · obtain ⟨cy, iy⟩ := fin_of y hy fy
      obtain ⟨cx, ix⟩ := fin_of x hx fx
      have hall : allFin [x, y] = true := by simp [allFin, ix, iy]
      obtain ⟨Y, eY, lY, cY, sY, _⟩ := up_spec y hy cy
      obtain ⟨X, eX, lX, cX, sX, _⟩ := up_spec x hx cx
      obtain ⟨_, yl, yz, yr⟩ := abs_range hy fy cy eY
      obtain ⟨_, xl, xz, xr⟩ := abs_range hx fx cx eX
      have oy := ord0 hy cy
      have ox := ord0 hx cx
      by_cases hz : x % 2147483648 = 0 ∧ y % 2147483648 = 0
      · exact ⟨some 0, fun w => impl_AngleTurns_zero y x hall (by rw [ox, if_pos hz.1]; rfl) (by rw [oy, if_pos hz.2]; rfl) w⟩
      · have hT : Fp (angT (Y % 9223372036854775808) (X % 9223372036854775808)) 1 := angT_Fp yr xr yl xl (by omega)
        have hzz : ((FloatKind.f32.format.order x 0 == some .eq) && (FloatKind.f32.format.order y 0 == some .eq)) = false := by
          rw [ox, oy, Bool.and_eq_false_iff]
          by_cases q : x % 2147483648 = 0
          · right
            rw [if_neg (fun p => hz ⟨q, p⟩)]
            split <;> rfl
          · left
            rw [if_neg q]
            split <;> rfl
        exact ⟨_, fun w => impl_AngleTurns y x Y X _ _ hall cy cx eY eX lY lX rfl rfl (by omega) (by omega) hT _ _ _ _ rfl rfl rfl rfl hzz w⟩
    · exact ⟨none, fun w => impl_AngleTurns_bad y x (by simp [allFin, bad_of x hx fx]) w⟩
  · exact ⟨none, fun w => impl_AngleTurns_bad y x (by simp [allFin, bad_of y hy fy]) w⟩
theorem impl_AngleOf_any (x y : Nat) (c : Option Nat) (hc : ∀ w, Calls Tryz.prog 16 #[.float .f32 y, .float .f32 x] w (RetFw c w)) (w : World) :
    Calls Tryz.prog 17 #[.complex .f32 x y] w (RetFw c w) := by
  have C := Lib.hid hc
  clear hc
  go_enter Tryz.func17, Tryz.ntmps17
  go_wp2_with fail
  refine (C.out _).mono ?_
  rintro _ w1 ⟨r, rfl, hr, hB⟩
  have B := Lib.hid (And.intro hr hB)
  clear hr hB
  go_wp2
  go_ret
  exact ⟨r, rfl, B.out.1, B.out.2⟩
theorem impl_Narrow (r : Nat) (hf : Fits .f64 .f32 (cn .f64 r)) (w : World) : Calls Tryz.prog 18 #[.float .f64 r] w (RetF .f32 (cconv .f64 .f32 (cn .f64 r)) w) := by
  have HF := Lib.hid hf
  clear hf
  go_enter Tryz.func18, Tryz.ntmps18
  go_wp2_with ((with_reducible refine up_down _ _ ?hf ?_); rotate_left; intro r nd hr)
  case hf => exact HF.out
  go_ret
  exact RetF.mk hr
theorem narrow_back (x : Nat) (hx : x < 4294967296) : Fits .f64 .f32 (cconv .f32 .f64 (cn .f32 x)) ∧ cconv .f64 .f32 (cconv .f32 .f64 (cn .f32 x)) = cn .f32 x := by
  rcases cn_cases .f32 x with c | c
  · rw [c]; exact ⟨trivial, rfl⟩
  · rw [c]
    obtain ⟨h1, h2⟩ := down_up x hx c
    exact ⟨h2, h1⟩
theorem sine_quarter : sinNC (cn .f32 1048576000) = some 1065353216 := by decide +kernel
theorem impl_Sine4 (w : World) : Calls Tryz.prog 19 #[.float .f32 1048576000] w (RetV (.float .f32 1065353216) w) := by
  have := impl_SineTurns 1048576000 (by omega) w
  rw [sine_quarter] at this
  exact this.mono fun _ _ h => (show RetV _ _ _ _ by
    obtain ⟨r, n, rfl, h2, rfl⟩ := h
    obtain rfl := cn_some h2.out
    exact ⟨n, rfl, rfl⟩)
theorem Bs.later {w w' : World} {a : Option Addr} {n : Nat} (h : Bs w a n) (hb : Below w.heap.size w w') : Bs w' a n := fun j hj => by
  obtain ⟨ad, v, h1, h2, h3, h4⟩ := h j hj
  exact ⟨ad, v, h1, h2, h3, (hb.cell (World.block_lt_of_cell? w _ h4)).trans h4⟩
/-- comparing numbers that are the same, but for which not-a-number they are -/
theorem same_true (a b : Nat) (ha : a < 4294967296) (hb : b < 4294967296) (h : cn .f32 a = cn .f32 b) (w : World) : Calls Tryz.prog 14 #[.float .f32 a, .float .f32 b] w (RetV (.bool true) w) := by
  have := spec_SameNumber a b ha hb w
  rwa [decide_eq_true h] at this
theorem getD_map (xs : List Nat) (k : Nat) (h : k < xs.length) : (backs xs).getD k 0 = bitsC (cn .f32 (xs.getD k 0)) := by
  unfold backs
  simp [h]
end Go.Proofs.YticeapacffgikaaGreatDoor
